/- Parts of a proof, merged by a program (shake.py). -/
import Derived.Test.YthjiclhfhjdjpaaGreatDoorQ36
set_option linter.unusedVariables false
set_option linter.unusedSimpArgs false
namespace Go.Proofs.YthjiclhfhjdjpaaGreatDoor
open Go.RowKit
set_option linter.unusedSectionVars false
attribute [local irreducible] wpList Calls Code.wp AW AWo OpOk seqK blockK scopeK loopK endK AC absLex Yld Sub
attribute [local irreducible] ACB ACX absLexG YldG absLexH
set_option maxHeartbeats 8000000 in
set_option maxRecDepth 100000 in
theorem b_t {t e : Bool} (h : e = true) (ht : t = !e) : t = false ∧ (t == false) = true ∧ ((t == false) = false → False) := by subst h; subst ht; exact ⟨rfl, rfl, fun h => by cases h⟩
set_option maxHeartbeats 8000000 in
set_option maxRecDepth 100000 in
theorem b_f {t e : Bool} (h : e = false) (ht : t = !e) : t = true ∧ (t == false) = false ∧ ((t == false) = true → False) := by subst h; subst ht; exact ⟨rfl, rfl, fun h => by cases h⟩
set_option maxHeartbeats 8000000 in
set_option maxRecDepth 100000 in
theorem chain7 : ∀ a b c d e f g : Bool, a = false ∨ (a = true ∧ b = false) ∨ (a = true ∧ b = true ∧ c = false) ∨ (a = true ∧ b = true ∧ c = true ∧ d = false) ∨ (a = true ∧ b = true ∧ c = true ∧ d = true ∧ e = false) ∨ (a = true ∧ b = true ∧ c = true ∧ d = true ∧ e = true ∧ f = false) ∨ (a = true ∧ b = true ∧ c = true ∧ d = true ∧ e = true ∧ f = true ∧ g = false) ∨ (a = true ∧ b = true ∧ c = true ∧ d = true ∧ e = true ∧ f = true ∧ g = true) := by
  intro a b c d e f g
  cases a
  · exact .inl rfl
  cases b
  · exact .inr (.inl ⟨rfl, rfl⟩)
  cases c
  · exact .inr (.inr (.inl ⟨rfl, rfl, rfl⟩))
  cases d
  · exact .inr (.inr (.inr (.inl ⟨rfl, rfl, rfl, rfl⟩)))
  cases e
  · exact .inr (.inr (.inr (.inr (.inl ⟨rfl, rfl, rfl, rfl, rfl⟩))))
  cases f
  · exact .inr (.inr (.inr (.inr (.inr (.inl ⟨rfl, rfl, rfl, rfl, rfl, rfl⟩)))))
  cases g
  · exact .inr (.inr (.inr (.inr (.inr (.inr (.inl ⟨rfl, rfl, rfl, rfl, rfl, rfl, rfl⟩))))))
  · exact .inr (.inr (.inr (.inr (.inr (.inr (.inr ⟨rfl, rfl, rfl, rfl, rfl, rfl, rfl⟩))))))
noncomputable def HSg (l m : List D) (i : Nat) : Vst 77 := stS 77 [(0, .sl 76 l), (1, .sl 76 m), (5, .c (.int .i64 (i : Int)))] []
set_option maxHeartbeats 8000000 in
set_option maxRecDepth 100000 in
theorem sels_step2 (k : Nat) (ih : ∀ l m, bulkL l < k → bulkL l ≤ 100000000 → bulkL m ≤ 100000000 → AC EN Tryz.prog 71 [.sl 76 l, .sl 76 m] (.c (.bool (eqL (selEq (k - 1)) l m)))) (l m : List D) (hk : bulkL l ≤ k) (hl : bulkL l ≤ 100000000) (hm : bulkL m ≤ 100000000) : AC EN Tryz.prog 71 [.sl 76 l, .sl 76 m] (.c (.bool (eqL (selEq k) l m))) := by
  have hll := len_bulk l
  by_cases hlen : l.length = m.length
  · have f0 : ((l.length : Int) != (m.length : Int)) = false := by simp [hlen]
    refine ac_enter 77 Tryz.func71 rfl rfl rfl rfl ?_
    intro s w he
    repeat' (first
 | (apply aw_cond_kf
    · conv => lhs; whnf
    · assumption)
 | refine aw_seq ?_
 | refine aw_region ?_
 | refine awo_nil ?_
 | refine k_seq ?_
 | refine aw_block ?_
 | refine aw_skip ?_
 | (apply s_val rfl
    · conv => lhs; whnf
    · conv => lhs; whnf; arg 2; whnf)
 | exact trivial)
    refine aw_loop (fun j st => ∃ i, i + j = l.length ∧ (∀ q, q < i → selEq k (gD l q) (gD m q) = true) ∧ Sub (cx EN Tryz.prog s w he) st (HSg l m i)) l.length ⟨0, by omega, fun q hq => by omega, Sub.live ⟨rfl, rfl, rfl, trivial⟩ trivial⟩ ?_
    rintro j st ⟨i, hij, hall, hs2⟩
    refine aw_sub hs2 ?_
    clear hs2
    by_cases hi : i < l.length
    · have f1 : decide ((i : Int) < (l.length : Nat)) = true := decide_eq_true (by omega)
      have hi2 : i < m.length := by omega
      have bx := itm_bulk hi hl
      have by_ := itm_bulk hi2 hm
      have bk := itm_bulk hi hk
      obtain ⟨k, rfl⟩ : ∃ q, k = q + 1 := ⟨k - 1, by have := bulkD_pos (gD l i); omega⟩
      rw [Nat.add_sub_cancel] at ih
      have h4 := argsR2_ac ((gD l i).f 4).l ((gD m i).f 4).l (by have := fld_bulk (gD l i) 4; omega) (by have := fld_bulk (gD m i) 4; omega)
      have h5 := dirsR2_ac ((gD l i).f 5).l ((gD m i).f 5).l (by have := fld_bulk (gD l i) 5; omega) (by have := fld_bulk (gD m i) 5; omega)
      have h6 := ih ((gD l i).f 6).l ((gD m i).f 6).l (by have := fld_bulk (gD l i) 6; omega) (by have := fld_bulk (gD l i) 6; omega) (by have := fld_bulk (gD m i) 6; omega)
      rcases chain7 (((gD l i).f 0).n == ((gD m i).f 0).n) (((gD l i).f 1).s.toList == ((gD m i).f 1).s.toList) (((gD l i).f 2).s.toList == ((gD m i).f 2).s.toList) (((gD l i).f 3).s.toList == ((gD m i).f 3).s.toList) (eqL argEq ((gD l i).f 4).l ((gD m i).f 4).l) (eqL dirEq ((gD l i).f 5).l ((gD m i).f 5).l) (eqL (selEq k) ((gD l i).f 6).l ((gD m i).f 6).l) with e0 | ⟨e0, e1⟩ | ⟨e0, e1, e2⟩ | ⟨e0, e1, e2, e3⟩ | ⟨e0, e1, e2, e3, e4⟩ | ⟨e0, e1, e2, e3, e4, e5⟩ | ⟨e0, e1, e2, e3, e4, e5, e6⟩ | ⟨e0, e1, e2, e3, e4, e5, e6⟩
      · obtain ⟨f0a, f0b, k0⟩ := b_f (t := (((gD l i).f 0).n != ((gD m i).f 0).n)) e0 rfl
        have e : selEq (k + 1) (gD l i) (gD m i) = false := by unfold selEq; (try unfold sEq); simp only [e0, Bool.true_and, Bool.false_and, Bool.and_false]
        rw [eqL_bad hi e]
        repeat' (first
 | (apply aw_drawA ([]) ([(8,[6]),(9,[7]),(10,[6]),(11,[7])]) ([(8,6),(9,7)]) rfl (by kernel_rfl) (by kernel_rfl) (by kernel_rfl) (by intro p hp; simp only [List.mem_cons, List.not_mem_nil, or_false] at hp; rcases hp with rfl | rfl <;> (repeat' (first | exact fresh_S rfl | refine fresh_put ?_ rfl | refine fresh_res ?_ rfl rfl))))
 | apply h_nil
 | (apply h_alloc rfl rfl rfl rfl
    · conv => lhs; whnf; arg 1; whnf
    · rfl
    · rfl
    · kernel_rfl)
 | (apply h_val rfl
    · conv => lhs; whnf
    · conv => lhs; whnf; arg 2; whnf
    · kernel_rfl)
 | (apply h_store rfl rfl rfl
    · conv => lhs; whnf
    · rfl
    · conv => lhs; whnf; arg 1; whnf
    · conv => lhs; whnf; arg 1; whnf
    · exact ⟨by kernel_rfl, by kernel_rfl⟩
    · rfl
    · kernel_rfl)
 | (show inO _ _ = true; rfl)
 | (apply aw_cond_kt
    · conv => lhs; whnf
    · assumption)
 | refine aw_seq ?_
 | refine aw_region ?_
 | refine awo_nil ?_
 | refine k_seq ?_
 | refine aw_block ?_
 | refine aw_skip ?_
 | (apply s_pick_t rfl rfl
    · conv => lhs; whnf
    · conv => lhs; whnf
    · first | exact bT1 (by assumption) | exact bT2 (by assumption))
 | (apply s_val rfl
    · conv => lhs; whnf
    · conv => lhs; whnf; arg 2; whnf)
 | (apply s_skipU rfl
    · conv => lhs; whnf
    · conv => lhs; whnf
    · first | rfl | assumption)
 | (apply aw_cond_t
    · conv => lhs; whnf; arg 1; arg 1; whnf)
 | refine aw_ret ?_
 | refine k_seq_ret ?_
 | refine k_block_ret ?_
 | refine k_loop_ret ?_
 | refine k_end_ret ?_
 | (refine ⟨_, by conv => lhs; whnf; arg 2; whnf, ?_⟩; conv => rhs; whnf)
 | exact trivial)
        all_goals first
          | exact i64_ok (by omega)
          | exact at_in hi
          | exact at_in hi2
          | rfl
          | skip
      · obtain ⟨f0a, f0b, k0⟩ := b_t (t := (((gD l i).f 0).n != ((gD m i).f 0).n)) e0 rfl
        obtain ⟨f1a, f1b, k1⟩ := b_f (t := (!(((gD l i).f 1).s.toList == ((gD m i).f 1).s.toList))) e1 rfl
        have e : selEq (k + 1) (gD l i) (gD m i) = false := by unfold selEq; (try unfold sEq); simp only [e0, e1, Bool.true_and, Bool.false_and, Bool.and_false]
        rw [eqL_bad hi e]
        repeat' (first
 | (apply aw_drawA ([]) ([(8,[6]),(9,[7]),(10,[6]),(11,[7])]) ([(8,6),(9,7)]) rfl (by kernel_rfl) (by kernel_rfl) (by kernel_rfl) (by intro p hp; simp only [List.mem_cons, List.not_mem_nil, or_false] at hp; rcases hp with rfl | rfl <;> (repeat' (first | exact fresh_S rfl | refine fresh_put ?_ rfl | refine fresh_res ?_ rfl rfl))))
 | apply h_nil
 | (apply h_alloc rfl rfl rfl rfl
    · conv => lhs; whnf; arg 1; whnf
    · rfl
    · rfl
    · kernel_rfl)
 | (apply h_val rfl
    · conv => lhs; whnf
    · conv => lhs; whnf; arg 2; whnf
    · kernel_rfl)
 | (apply h_store rfl rfl rfl
    · conv => lhs; whnf
    · rfl
    · conv => lhs; whnf; arg 1; whnf
    · conv => lhs; whnf; arg 1; whnf
    · exact ⟨by kernel_rfl, by kernel_rfl⟩
    · rfl
    · kernel_rfl)
 | (show inO _ _ = true; rfl)
 | (apply aw_cond_kt
    · conv => lhs; whnf
    · assumption)
 | refine aw_seq ?_
 | refine aw_region ?_
 | refine awo_nil ?_
 | refine k_seq ?_
 | refine aw_block ?_
 | refine aw_skip ?_
 | (apply s_pick_t rfl rfl
    · conv => lhs; whnf
    · conv => lhs; whnf
    · first | exact bT1 (by assumption) | exact bT2 (by assumption))
 | (apply s_pick_f rfl rfl
    · conv => lhs; whnf
    · conv => lhs; whnf
    · first | exact bF1 (by assumption) | exact bF2 (by assumption))
 | (apply s_val rfl
    · conv => lhs; whnf
    · conv => lhs; whnf; arg 2; whnf)
 | (apply s_wanted_val rfl
    · conv => lhs; whnf
    · conv => lhs; whnf
    · first | rfl | assumption
    · conv => lhs; whnf; arg 2; whnf)
 | (apply s_skipU rfl
    · conv => lhs; whnf
    · conv => lhs; whnf
    · first | rfl | assumption)
 | (apply aw_cond_t
    · conv => lhs; whnf; arg 1; arg 1; whnf)
 | refine aw_ret ?_
 | refine k_seq_ret ?_
 | refine k_block_ret ?_
 | refine k_loop_ret ?_
 | refine k_end_ret ?_
 | (refine ⟨_, by conv => lhs; whnf; arg 2; whnf, ?_⟩; conv => rhs; whnf)
 | exact trivial)
        all_goals first
          | exact i64_ok (by omega)
          | exact at_in hi
          | exact at_in hi2
          | rfl
          | skip
      · obtain ⟨f0a, f0b, k0⟩ := b_t (t := (((gD l i).f 0).n != ((gD m i).f 0).n)) e0 rfl
        obtain ⟨f1a, f1b, k1⟩ := b_t (t := (!(((gD l i).f 1).s.toList == ((gD m i).f 1).s.toList))) e1 rfl
        obtain ⟨f2a, f2b, k2⟩ := b_f (t := (!(((gD l i).f 2).s.toList == ((gD m i).f 2).s.toList))) e2 rfl
        have e : selEq (k + 1) (gD l i) (gD m i) = false := by unfold selEq; (try unfold sEq); simp only [e0, e1, e2, Bool.true_and, Bool.false_and, Bool.and_false]
        rw [eqL_bad hi e]
        repeat' (first
 | (apply aw_drawA ([]) ([(8,[6]),(9,[7]),(10,[6]),(11,[7])]) ([(8,6),(9,7)]) rfl (by kernel_rfl) (by kernel_rfl) (by kernel_rfl) (by intro p hp; simp only [List.mem_cons, List.not_mem_nil, or_false] at hp; rcases hp with rfl | rfl <;> (repeat' (first | exact fresh_S rfl | refine fresh_put ?_ rfl | refine fresh_res ?_ rfl rfl))))
 | apply h_nil
 | (apply h_alloc rfl rfl rfl rfl
    · conv => lhs; whnf; arg 1; whnf
    · rfl
    · rfl
    · kernel_rfl)
 | (apply h_val rfl
    · conv => lhs; whnf
    · conv => lhs; whnf; arg 2; whnf
    · kernel_rfl)
 | (apply h_store rfl rfl rfl
    · conv => lhs; whnf
    · rfl
    · conv => lhs; whnf; arg 1; whnf
    · conv => lhs; whnf; arg 1; whnf
    · exact ⟨by kernel_rfl, by kernel_rfl⟩
    · rfl
    · kernel_rfl)
 | (show inO _ _ = true; rfl)
 | (apply aw_cond_kt
    · conv => lhs; whnf
    · assumption)
 | refine aw_seq ?_
 | refine aw_region ?_
 | refine awo_nil ?_
 | refine k_seq ?_
 | refine aw_block ?_
 | refine aw_skip ?_
 | (apply s_pick_t rfl rfl
    · conv => lhs; whnf
    · conv => lhs; whnf
    · first | exact bT1 (by assumption) | exact bT2 (by assumption))
 | (apply s_pick_f rfl rfl
    · conv => lhs; whnf
    · conv => lhs; whnf
    · first | exact bF1 (by assumption) | exact bF2 (by assumption))
 | (apply s_val rfl
    · conv => lhs; whnf
    · conv => lhs; whnf; arg 2; whnf)
 | (apply s_wanted_val rfl
    · conv => lhs; whnf
    · conv => lhs; whnf
    · first | rfl | assumption
    · conv => lhs; whnf; arg 2; whnf)
 | (apply s_skipU rfl
    · conv => lhs; whnf
    · conv => lhs; whnf
    · first | rfl | assumption)
 | (apply aw_cond_t
    · conv => lhs; whnf; arg 1; arg 1; whnf)
 | refine aw_ret ?_
 | refine k_seq_ret ?_
 | refine k_block_ret ?_
 | refine k_loop_ret ?_
 | refine k_end_ret ?_
 | (refine ⟨_, by conv => lhs; whnf; arg 2; whnf, ?_⟩; conv => rhs; whnf)
 | exact trivial)
        all_goals first
          | exact i64_ok (by omega)
          | exact at_in hi
          | exact at_in hi2
          | rfl
          | skip
      · obtain ⟨f0a, f0b, k0⟩ := b_t (t := (((gD l i).f 0).n != ((gD m i).f 0).n)) e0 rfl
        obtain ⟨f1a, f1b, k1⟩ := b_t (t := (!(((gD l i).f 1).s.toList == ((gD m i).f 1).s.toList))) e1 rfl
        obtain ⟨f2a, f2b, k2⟩ := b_t (t := (!(((gD l i).f 2).s.toList == ((gD m i).f 2).s.toList))) e2 rfl
        obtain ⟨f3a, f3b, k3⟩ := b_f (t := (!(((gD l i).f 3).s.toList == ((gD m i).f 3).s.toList))) e3 rfl
        have e : selEq (k + 1) (gD l i) (gD m i) = false := by unfold selEq; (try unfold sEq); simp only [e0, e1, e2, e3, Bool.true_and, Bool.false_and, Bool.and_false]
        rw [eqL_bad hi e]
        repeat' (first
 | (apply aw_drawA ([]) ([(8,[6]),(9,[7]),(10,[6]),(11,[7])]) ([(8,6),(9,7)]) rfl (by kernel_rfl) (by kernel_rfl) (by kernel_rfl) (by intro p hp; simp only [List.mem_cons, List.not_mem_nil, or_false] at hp; rcases hp with rfl | rfl <;> (repeat' (first | exact fresh_S rfl | refine fresh_put ?_ rfl | refine fresh_res ?_ rfl rfl))))
 | apply h_nil
 | (apply h_alloc rfl rfl rfl rfl
    · conv => lhs; whnf; arg 1; whnf
    · rfl
    · rfl
    · kernel_rfl)
 | (apply h_val rfl
    · conv => lhs; whnf
    · conv => lhs; whnf; arg 2; whnf
    · kernel_rfl)
 | (apply h_store rfl rfl rfl
    · conv => lhs; whnf
    · rfl
    · conv => lhs; whnf; arg 1; whnf
    · conv => lhs; whnf; arg 1; whnf
    · exact ⟨by kernel_rfl, by kernel_rfl⟩
    · rfl
    · kernel_rfl)
 | (show inO _ _ = true; rfl)
 | (apply aw_cond_kt
    · conv => lhs; whnf
    · assumption)
 | refine aw_seq ?_
 | refine aw_region ?_
 | refine awo_nil ?_
 | refine k_seq ?_
 | refine aw_block ?_
 | refine aw_skip ?_
 | (apply s_pick_t rfl rfl
    · conv => lhs; whnf
    · conv => lhs; whnf
    · first | exact bT1 (by assumption) | exact bT2 (by assumption))
 | (apply s_pick_f rfl rfl
    · conv => lhs; whnf
    · conv => lhs; whnf
    · first | exact bF1 (by assumption) | exact bF2 (by assumption))
 | (apply s_val rfl
    · conv => lhs; whnf
    · conv => lhs; whnf; arg 2; whnf)
 | (apply s_wanted_val rfl
    · conv => lhs; whnf
    · conv => lhs; whnf
    · first | rfl | assumption
    · conv => lhs; whnf; arg 2; whnf)
 | (apply s_skipU rfl
    · conv => lhs; whnf
    · conv => lhs; whnf
    · first | rfl | assumption)
 | (apply aw_cond_t
    · conv => lhs; whnf; arg 1; arg 1; whnf)
 | refine aw_ret ?_
 | refine k_seq_ret ?_
 | refine k_block_ret ?_
 | refine k_loop_ret ?_
 | refine k_end_ret ?_
 | (refine ⟨_, by conv => lhs; whnf; arg 2; whnf, ?_⟩; conv => rhs; whnf)
 | exact trivial)
        all_goals first
          | exact i64_ok (by omega)
          | exact at_in hi
          | exact at_in hi2
          | rfl
          | skip
      · obtain ⟨f0a, f0b, k0⟩ := b_t (t := (((gD l i).f 0).n != ((gD m i).f 0).n)) e0 rfl
        obtain ⟨f1a, f1b, k1⟩ := b_t (t := (!(((gD l i).f 1).s.toList == ((gD m i).f 1).s.toList))) e1 rfl
        obtain ⟨f2a, f2b, k2⟩ := b_t (t := (!(((gD l i).f 2).s.toList == ((gD m i).f 2).s.toList))) e2 rfl
        obtain ⟨f3a, f3b, k3⟩ := b_t (t := (!(((gD l i).f 3).s.toList == ((gD m i).f 3).s.toList))) e3 rfl
        rw [e4] at h4
        have e : selEq (k + 1) (gD l i) (gD m i) = false := by unfold selEq; (try unfold sEq); simp only [e0, e1, e2, e3, e4, Bool.true_and, Bool.false_and, Bool.and_false]
        rw [eqL_bad hi e]
        repeat' (first
 | (apply aw_drawA ([]) ([(8,[6]),(9,[7]),(10,[6]),(11,[7])]) ([(8,6),(9,7)]) rfl (by kernel_rfl) (by kernel_rfl) (by kernel_rfl) (by intro p hp; simp only [List.mem_cons, List.not_mem_nil, or_false] at hp; rcases hp with rfl | rfl <;> (repeat' (first | exact fresh_S rfl | refine fresh_put ?_ rfl | refine fresh_res ?_ rfl rfl))))
 | apply h_nil
 | (apply h_alloc rfl rfl rfl rfl
    · conv => lhs; whnf; arg 1; whnf
    · rfl
    · rfl
    · kernel_rfl)
 | (apply h_val rfl
    · conv => lhs; whnf
    · conv => lhs; whnf; arg 2; whnf
    · kernel_rfl)
 | (apply h_store rfl rfl rfl
    · conv => lhs; whnf
    · rfl
    · conv => lhs; whnf; arg 1; whnf
    · conv => lhs; whnf; arg 1; whnf
    · exact ⟨by kernel_rfl, by kernel_rfl⟩
    · rfl
    · kernel_rfl)
 | (show inO _ _ = true; rfl)
 | (apply aw_cond_kt
    · conv => lhs; whnf
    · assumption)
 | refine aw_seq ?_
 | refine aw_region ?_
 | refine awo_nil ?_
 | refine k_seq ?_
 | refine aw_block ?_
 | refine aw_skip ?_
 | (apply s_pick_f rfl rfl
    · conv => lhs; whnf
    · conv => lhs; whnf
    · first | exact bF1 (by assumption) | exact bF2 (by assumption))
 | (apply s_val rfl
    · conv => lhs; whnf
    · conv => lhs; whnf; arg 2; whnf)
 | (apply s_wanted_val rfl
    · conv => lhs; whnf
    · conv => lhs; whnf
    · first | rfl | assumption
    · conv => lhs; whnf; arg 2; whnf)
 | (apply s_wanted_call rfl
    · conv => lhs; whnf
    · conv => lhs; whnf
    · first | rfl | assumption
    · conv => lhs; whnf
    · first | exact h4)
 | (apply s_skipU rfl
    · conv => lhs; whnf
    · conv => lhs; whnf
    · first | rfl | assumption)
 | (apply aw_cond_t
    · conv => lhs; whnf; arg 1; arg 1; whnf)
 | refine aw_ret ?_
 | refine k_seq_ret ?_
 | refine k_block_ret ?_
 | refine k_loop_ret ?_
 | refine k_end_ret ?_
 | (refine ⟨_, by conv => lhs; whnf; arg 2; whnf, ?_⟩; conv => rhs; whnf)
 | exact trivial)
        all_goals first
          | exact i64_ok (by omega)
          | exact at_in hi
          | exact at_in hi2
          | rfl
          | skip
      · obtain ⟨f0a, f0b, k0⟩ := b_t (t := (((gD l i).f 0).n != ((gD m i).f 0).n)) e0 rfl
        obtain ⟨f1a, f1b, k1⟩ := b_t (t := (!(((gD l i).f 1).s.toList == ((gD m i).f 1).s.toList))) e1 rfl
        obtain ⟨f2a, f2b, k2⟩ := b_t (t := (!(((gD l i).f 2).s.toList == ((gD m i).f 2).s.toList))) e2 rfl
        obtain ⟨f3a, f3b, k3⟩ := b_t (t := (!(((gD l i).f 3).s.toList == ((gD m i).f 3).s.toList))) e3 rfl
        rw [e4] at h4
        rw [e5] at h5
        have e : selEq (k + 1) (gD l i) (gD m i) = false := by unfold selEq; (try unfold sEq); simp only [e0, e1, e2, e3, e4, e5, Bool.true_and, Bool.false_and, Bool.and_false]
        rw [eqL_bad hi e]
        repeat' (first
 | (apply aw_drawA ([]) ([(8,[6]),(9,[7]),(10,[6]),(11,[7])]) ([(8,6),(9,7)]) rfl (by kernel_rfl) (by kernel_rfl) (by kernel_rfl) (by intro p hp; simp only [List.mem_cons, List.not_mem_nil, or_false] at hp; rcases hp with rfl | rfl <;> (repeat' (first | exact fresh_S rfl | refine fresh_put ?_ rfl | refine fresh_res ?_ rfl rfl))))
 | apply h_nil
 | (apply h_alloc rfl rfl rfl rfl
    · conv => lhs; whnf; arg 1; whnf
    · rfl
    · rfl
    · kernel_rfl)
 | (apply h_val rfl
    · conv => lhs; whnf
    · conv => lhs; whnf; arg 2; whnf
    · kernel_rfl)
 | (apply h_store rfl rfl rfl
    · conv => lhs; whnf
    · rfl
    · conv => lhs; whnf; arg 1; whnf
    · conv => lhs; whnf; arg 1; whnf
    · exact ⟨by kernel_rfl, by kernel_rfl⟩
    · rfl
    · kernel_rfl)
 | (show inO _ _ = true; rfl)
 | (apply aw_cond_kt
    · conv => lhs; whnf
    · assumption)
 | refine aw_seq ?_
 | refine aw_region ?_
 | refine awo_nil ?_
 | refine k_seq ?_
 | refine aw_block ?_
 | refine aw_skip ?_
 | (apply s_pick_f rfl rfl
    · conv => lhs; whnf
    · conv => lhs; whnf
    · first | exact bF1 (by assumption) | exact bF2 (by assumption))
 | (apply s_val rfl
    · conv => lhs; whnf
    · conv => lhs; whnf; arg 2; whnf)
 | (apply s_wanted_val rfl
    · conv => lhs; whnf
    · conv => lhs; whnf
    · first | rfl | assumption
    · conv => lhs; whnf; arg 2; whnf)
 | (apply s_wanted_call rfl
    · conv => lhs; whnf
    · conv => lhs; whnf
    · first | rfl | assumption
    · conv => lhs; whnf
    · first | exact h4 | exact h5)
 | (apply s_skipU rfl
    · conv => lhs; whnf
    · conv => lhs; whnf
    · first | rfl | assumption)
 | (apply aw_cond_t
    · conv => lhs; whnf; arg 1; arg 1; whnf)
 | refine aw_ret ?_
 | refine k_seq_ret ?_
 | refine k_block_ret ?_
 | refine k_loop_ret ?_
 | refine k_end_ret ?_
 | (refine ⟨_, by conv => lhs; whnf; arg 2; whnf, ?_⟩; conv => rhs; whnf)
 | exact trivial)
        all_goals first
          | exact i64_ok (by omega)
          | exact at_in hi
          | exact at_in hi2
          | rfl
          | skip
      · obtain ⟨f0a, f0b, k0⟩ := b_t (t := (((gD l i).f 0).n != ((gD m i).f 0).n)) e0 rfl
        obtain ⟨f1a, f1b, k1⟩ := b_t (t := (!(((gD l i).f 1).s.toList == ((gD m i).f 1).s.toList))) e1 rfl
        obtain ⟨f2a, f2b, k2⟩ := b_t (t := (!(((gD l i).f 2).s.toList == ((gD m i).f 2).s.toList))) e2 rfl
        obtain ⟨f3a, f3b, k3⟩ := b_t (t := (!(((gD l i).f 3).s.toList == ((gD m i).f 3).s.toList))) e3 rfl
        rw [e4] at h4
        rw [e5] at h5
        rw [e6] at h6
        have e : selEq (k + 1) (gD l i) (gD m i) = false := by unfold selEq; (try unfold sEq); simp only [e0, e1, e2, e3, e4, e5, e6, Bool.true_and, Bool.false_and, Bool.and_false]
        rw [eqL_bad hi e]
        repeat' (first
 | (apply aw_drawA ([]) ([(8,[6]),(9,[7]),(10,[6]),(11,[7])]) ([(8,6),(9,7)]) rfl (by kernel_rfl) (by kernel_rfl) (by kernel_rfl) (by intro p hp; simp only [List.mem_cons, List.not_mem_nil, or_false] at hp; rcases hp with rfl | rfl <;> (repeat' (first | exact fresh_S rfl | refine fresh_put ?_ rfl | refine fresh_res ?_ rfl rfl))))
 | apply h_nil
 | (apply h_alloc rfl rfl rfl rfl
    · conv => lhs; whnf; arg 1; whnf
    · rfl
    · rfl
    · kernel_rfl)
 | (apply h_val rfl
    · conv => lhs; whnf
    · conv => lhs; whnf; arg 2; whnf
    · kernel_rfl)
 | (apply h_store rfl rfl rfl
    · conv => lhs; whnf
    · rfl
    · conv => lhs; whnf; arg 1; whnf
    · conv => lhs; whnf; arg 1; whnf
    · exact ⟨by kernel_rfl, by kernel_rfl⟩
    · rfl
    · kernel_rfl)
 | (show inO _ _ = true; rfl)
 | (apply aw_cond_kt
    · conv => lhs; whnf
    · assumption)
 | refine aw_seq ?_
 | refine aw_region ?_
 | refine awo_nil ?_
 | refine k_seq ?_
 | refine aw_block ?_
 | refine aw_skip ?_
 | (apply s_pick_f rfl rfl
    · conv => lhs; whnf
    · conv => lhs; whnf
    · first | exact bF1 (by assumption) | exact bF2 (by assumption))
 | (apply s_val rfl
    · conv => lhs; whnf
    · conv => lhs; whnf; arg 2; whnf)
 | (apply s_wanted_val rfl
    · conv => lhs; whnf
    · conv => lhs; whnf
    · first | rfl | assumption
    · conv => lhs; whnf; arg 2; whnf)
 | (apply s_wanted_call rfl
    · conv => lhs; whnf
    · conv => lhs; whnf
    · first | rfl | assumption
    · conv => lhs; whnf
    · first | exact h4 | exact h5 | exact h6)
 | (apply aw_cond_t
    · conv => lhs; whnf; arg 1; arg 1; whnf)
 | refine aw_ret ?_
 | refine k_seq_ret ?_
 | refine k_block_ret ?_
 | refine k_loop_ret ?_
 | refine k_end_ret ?_
 | (refine ⟨_, by conv => lhs; whnf; arg 2; whnf, ?_⟩; conv => rhs; whnf)
 | exact trivial)
        all_goals first
          | exact i64_ok (by omega)
          | exact at_in hi
          | exact at_in hi2
          | rfl
          | skip
      · obtain ⟨f0a, f0b, k0⟩ := b_t (t := (((gD l i).f 0).n != ((gD m i).f 0).n)) e0 rfl
        obtain ⟨f1a, f1b, k1⟩ := b_t (t := (!(((gD l i).f 1).s.toList == ((gD m i).f 1).s.toList))) e1 rfl
        obtain ⟨f2a, f2b, k2⟩ := b_t (t := (!(((gD l i).f 2).s.toList == ((gD m i).f 2).s.toList))) e2 rfl
        obtain ⟨f3a, f3b, k3⟩ := b_t (t := (!(((gD l i).f 3).s.toList == ((gD m i).f 3).s.toList))) e3 rfl
        rw [e4] at h4
        rw [e5] at h5
        rw [e6] at h6
        have e : selEq (k + 1) (gD l i) (gD m i) = true := by unfold selEq; (try unfold sEq); simp only [e0, e1, e2, e3, e4, e5, e6, Bool.true_and, Bool.false_and, Bool.and_false]; try rfl
        repeat' (first
 | (apply aw_drawA ([]) ([(8,[6]),(9,[7]),(10,[6]),(11,[7])]) ([(8,6),(9,7)]) rfl (by kernel_rfl) (by kernel_rfl) (by kernel_rfl) (by intro p hp; simp only [List.mem_cons, List.not_mem_nil, or_false] at hp; rcases hp with rfl | rfl <;> (repeat' (first | exact fresh_S rfl | refine fresh_put ?_ rfl | refine fresh_res ?_ rfl rfl))))
 | apply h_nil
 | (apply h_alloc rfl rfl rfl rfl
    · conv => lhs; whnf; arg 1; whnf
    · rfl
    · rfl
    · kernel_rfl)
 | (apply h_val rfl
    · conv => lhs; whnf
    · conv => lhs; whnf; arg 2; whnf
    · kernel_rfl)
 | (apply h_store rfl rfl rfl
    · conv => lhs; whnf
    · rfl
    · conv => lhs; whnf; arg 1; whnf
    · conv => lhs; whnf; arg 1; whnf
    · exact ⟨by kernel_rfl, by kernel_rfl⟩
    · rfl
    · kernel_rfl)
 | (show inO _ _ = true; rfl)
 | (apply aw_cond_kt
    · conv => lhs; whnf
    · assumption)
 | refine aw_seq ?_
 | refine aw_region ?_
 | refine awo_nil ?_
 | refine k_seq ?_
 | refine k_block ?_
 | refine aw_block ?_
 | refine aw_skip ?_
 | (apply s_pick_f rfl rfl
    · conv => lhs; whnf
    · conv => lhs; whnf
    · first | exact bF1 (by assumption) | exact bF2 (by assumption))
 | (apply s_val rfl
    · conv => lhs; whnf
    · conv => lhs; whnf; arg 2; whnf)
 | (apply s_wanted_val rfl
    · conv => lhs; whnf
    · conv => lhs; whnf
    · first | rfl | assumption
    · conv => lhs; whnf; arg 2; whnf)
 | (apply s_wanted_call rfl
    · conv => lhs; whnf
    · conv => lhs; whnf
    · first | rfl | assumption
    · conv => lhs; whnf
    · first | exact h4 | exact h5 | exact h6)
 | (apply aw_cond_f
    · conv => lhs; whnf; arg 1; arg 1; whnf)
 | exact trivial)
        all_goals first
          | exact i64_ok (by omega)
          | exact at_in hi
          | exact at_in hi2
          | exact k_loop_next (j' := j - 1) (by omega) ⟨i + 1, by omega, all_next hall e, Sub.live ⟨rfl, rfl, rfl, trivial⟩ trivial⟩
          | skip
    · have f1 : decide ((i : Int) < (l.length : Nat)) = false := decide_eq_false (by omega)
      rw [eqL_all hlen fun q hq => hall q (by omega)]
      repeat' (first
 | (apply aw_cond_kf
    · conv => lhs; whnf
    · assumption)
 | refine aw_seq ?_
 | refine aw_region ?_
 | refine awo_nil ?_
 | refine k_seq ?_
 | (apply s_val rfl
    · conv => lhs; whnf
    · conv => lhs; whnf; arg 2; whnf)
 | refine aw_ret ?_
 | refine aw_exit ?_
 | refine k_seq_exit ?_
 | refine k_block_hit rfl ?_
 | refine k_loop_exit ?_
 | refine k_end_ret ?_
 | (refine ⟨_, by conv => lhs; whnf; arg 2; whnf, ?_⟩; conv => rhs; whnf)
 | exact trivial)
  · have f0 : ((l.length : Int) != (m.length : Int)) = true := by simp; omega
    rw [eqL_ne f0]
    refine ac_enter 77 Tryz.func71 rfl rfl rfl rfl ?_
    intro s w he
    repeat' (first
 | (apply aw_cond_kt
    · conv => lhs; whnf
    · assumption)
 | refine aw_seq ?_
 | refine aw_region ?_
 | refine awo_nil ?_
 | refine k_seq ?_
 | (apply s_val rfl
    · conv => lhs; whnf
    · conv => lhs; whnf; arg 2; whnf)
 | refine aw_ret ?_
 | refine k_seq_ret ?_
 | refine k_end_ret ?_
 | (refine ⟨_, by conv => lhs; whnf; arg 2; whnf, ?_⟩; conv => rhs; whnf)
 | exact trivial)
set_option maxHeartbeats 8000000 in
set_option maxRecDepth 100000 in
theorem selsR2_ac : ∀ (k : Nat) (l m : List D), bulkL l ≤ k → bulkL l ≤ 100000000 → bulkL m ≤ 100000000 → AC EN Tryz.prog 71 [.sl 76 l, .sl 76 m] (.c (.bool (eqL (selEq k) l m)))
  | 0, l, m, hk, hl, hm => sels_step2 0 (fun _ _ h => absurd h (Nat.not_lt_zero _)) l m hk hl hm
  | k + 1, l, m, hk, hl, hm => sels_step2 (k + 1) (fun l m h h2 h3 => selsR2_ac k l m (Nat.le_of_lt_succ h) h2 h3) l m hk hl hm
noncomputable def HKg (a b c d : List D) (i : Nat) : Vst 109 := stS 109 [(2, .bx 2 0), (3, .bx 3 0), (5, .c (.int .i64 (i : Int)))] [(2, .box 41 [.sl 57 a, .sl 116 b]), (3, .box 41 [.sl 57 c, .sl 116 d])]
noncomputable def HFg (a b c d : List D) (i : Nat) : Vst 109 := stS 109 [(2, .bx 2 0), (3, .bx 3 0), (8, .c (.int .i64 (i : Int)))] [(2, .box 41 [.sl 57 a, .sl 116 b]), (3, .box 41 [.sl 57 c, .sl 116 d])]
set_option maxHeartbeats 8000000 in
set_option maxRecDepth 100000 in
theorem alikeR_ac (k : Nat) (a b c d : List D) (hka : bulkL a ≤ k) (hkb : bulkL b ≤ k) (ha : bulkL a ≤ 100000000) (hb : bulkL b ≤ 100000000) (hc : bulkL c ≤ 100000000) (hd : bulkL d ≤ 100000000) : AC EN Tryz.prog 33 [.agg [.sl 57 a, .sl 116 b], .agg [.sl 57 c, .sl 116 d]] (.c (.bool (queEq k a b c d))) := by
  have la := len_bulk a
  have lb := len_bulk b
  unfold queEq
  by_cases hac : a.length = c.length
  · obtain ⟨f0a, f0b, k0⟩ := b_t (t := ((a.length : Int) != (c.length : Int))) (e := ((a.length : Int) == (c.length : Int))) (by simp [hac]) rfl
    by_cases hbd : b.length = d.length
    · obtain ⟨f1a, f1b, k1⟩ := b_t (t := ((b.length : Int) != (d.length : Int))) (e := ((b.length : Int) == (d.length : Int))) (by simp [hbd]) rfl
      refine ac_enter 109 Tryz.func33 rfl rfl rfl rfl ?_
      intro s w he
      repeat' (first
 | (apply aw_cond_kf
    · conv => lhs; whnf
    · assumption)
 | refine aw_seq ?_
 | refine aw_region ?_
 | refine awo_nil ?_
 | refine k_seq ?_
 | refine aw_block ?_
 | refine aw_skip ?_
 | (apply s_pick_f rfl rfl
    · conv => lhs; whnf
    · conv => lhs; whnf
    · first | exact bF1 (by assumption) | exact bF2 (by assumption))
 | (apply s_val rfl
    · conv => lhs; whnf
    · conv => lhs; whnf; arg 2; whnf)
 | (apply s_box rfl rfl rfl rfl
    · conv => lhs; whnf; arg 1; whnf
    · rfl)
 | (apply s_wanted_val rfl
    · conv => lhs; whnf
    · conv => lhs; whnf
    · first | rfl | assumption
    · conv => lhs; whnf; arg 2; whnf)
 | exact trivial)
      clear f0a f0b k0 f1a f1b k1
      refine aw_loop (fun j st => ∃ i, i + j = a.length ∧ (∀ q, q < i → opEq k (gD a q) (gD c q) = true) ∧ Sub (cx EN Tryz.prog s w he) st (HKg a b c d i)) a.length ⟨0, by omega, fun q hq => by omega, Sub.live ⟨rfl, rfl, rfl, trivial⟩ ⟨rfl, rfl, trivial⟩⟩ ?_
      rintro j st ⟨i, hij, hall, hs2⟩
      refine aw_sub hs2 ?_
      clear hs2
      by_cases hi : i < a.length
      · have f1 : decide ((i : Int) < (a.length : Nat)) = true := decide_eq_true (by omega)
        have hi2 : i < c.length := by omega
        have bx := itm_bulk hi ha
        have by_ := itm_bulk hi2 hc
        have bk := itm_bulk hi hka
        have h2 := varsR2_ac ((gD a i).f 2).l ((gD c i).f 2).l (by have := fld_bulk (gD a i) 2; omega) (by have := fld_bulk (gD c i) 2; omega)
        have h3 := selsR2_ac k ((gD a i).f 3).l ((gD c i).f 3).l (by have := fld_bulk (gD a i) 3; omega) (by have := fld_bulk (gD a i) 3; omega) (by have := fld_bulk (gD c i) 3; omega)
        rcases chain4 (((gD a i).f 0).n == ((gD c i).f 0).n) (((gD a i).f 1).s.toList == ((gD c i).f 1).s.toList) (eqL varEq ((gD a i).f 2).l ((gD c i).f 2).l) (eqL (selEq k) ((gD a i).f 3).l ((gD c i).f 3).l) with e0 | ⟨e0, e1⟩ | ⟨e0, e1, e2⟩ | ⟨e0, e1, e2, e3⟩ | ⟨e0, e1, e2, e3⟩
        · obtain ⟨f0a, f0b, k0⟩ := b_f (t := (((gD a i).f 0).n != ((gD c i).f 0).n)) e0 rfl
          have e : opEq k (gD a i) (gD c i) = false := by unfold opEq; (try unfold sEq); simp only [e0, Bool.true_and, Bool.false_and, Bool.and_false]
          rw [eqL_bad hi e, Bool.false_and]
          repeat' (first
 | (apply aw_drawA ([(1,[2]),(6,[3])]) ([(10,[6]),(11,[7]),(12,[6]),(13,[7])]) ([(10,6),(11,7)]) rfl (by kernel_rfl) (by kernel_rfl) (by kernel_rfl) (by intro p hp; simp only [List.mem_cons, List.not_mem_nil, or_false] at hp; rcases hp with rfl | rfl <;> (repeat' (first | exact fresh_S rfl | refine fresh_put ?_ rfl | refine fresh_res ?_ rfl rfl))))
 | apply h_nil
 | (apply h_alloc rfl rfl rfl rfl
    · conv => lhs; whnf; arg 1; whnf
    · rfl
    · rfl
    · kernel_rfl)
 | (apply h_val rfl
    · conv => lhs; whnf
    · conv => lhs; whnf; arg 2; whnf
    · kernel_rfl)
 | (apply h_store rfl rfl rfl
    · conv => lhs; whnf
    · rfl
    · conv => lhs; whnf; arg 1; whnf
    · conv => lhs; whnf; arg 1; whnf
    · exact ⟨by kernel_rfl, by kernel_rfl⟩
    · rfl
    · kernel_rfl)
 | (show inO _ _ = true; rfl)
 | (apply aw_cond_kt
    · conv => lhs; whnf
    · assumption)
 | refine aw_seq ?_
 | refine aw_region ?_
 | refine awo_nil ?_
 | refine k_seq ?_
 | refine aw_block ?_
 | refine aw_skip ?_
 | (apply s_pick_t rfl rfl
    · conv => lhs; whnf
    · conv => lhs; whnf
    · first | exact bT1 (by assumption) | exact bT2 (by assumption))
 | (apply s_val rfl
    · conv => lhs; whnf
    · conv => lhs; whnf; arg 2; whnf)
 | (apply s_skipU rfl
    · conv => lhs; whnf
    · conv => lhs; whnf
    · first | rfl | assumption)
 | (apply aw_cond_t
    · conv => lhs; whnf; arg 1; arg 1; whnf)
 | refine aw_ret ?_
 | refine k_seq_ret ?_
 | refine k_block_ret ?_
 | refine k_loop_ret ?_
 | refine k_end_ret ?_
 | (refine ⟨_, by conv => lhs; whnf; arg 2; whnf, ?_⟩; conv => rhs; whnf)
 | exact trivial)
          all_goals first
            | exact i64_ok (by omega)
            | exact at_in hi
            | exact at_in hi2
            | rfl
            | skip
        · obtain ⟨f0a, f0b, k0⟩ := b_t (t := (((gD a i).f 0).n != ((gD c i).f 0).n)) e0 rfl
          obtain ⟨f1a, f1b, k1⟩ := b_f (t := (!(((gD a i).f 1).s.toList == ((gD c i).f 1).s.toList))) e1 rfl
          have e : opEq k (gD a i) (gD c i) = false := by unfold opEq; (try unfold sEq); simp only [e0, e1, Bool.true_and, Bool.false_and, Bool.and_false]
          rw [eqL_bad hi e, Bool.false_and]
          repeat' (first
 | (apply aw_drawA ([(1,[2]),(6,[3])]) ([(10,[6]),(11,[7]),(12,[6]),(13,[7])]) ([(10,6),(11,7)]) rfl (by kernel_rfl) (by kernel_rfl) (by kernel_rfl) (by intro p hp; simp only [List.mem_cons, List.not_mem_nil, or_false] at hp; rcases hp with rfl | rfl <;> (repeat' (first | exact fresh_S rfl | refine fresh_put ?_ rfl | refine fresh_res ?_ rfl rfl))))
 | apply h_nil
 | (apply h_alloc rfl rfl rfl rfl
    · conv => lhs; whnf; arg 1; whnf
    · rfl
    · rfl
    · kernel_rfl)
 | (apply h_val rfl
    · conv => lhs; whnf
    · conv => lhs; whnf; arg 2; whnf
    · kernel_rfl)
 | (apply h_store rfl rfl rfl
    · conv => lhs; whnf
    · rfl
    · conv => lhs; whnf; arg 1; whnf
    · conv => lhs; whnf; arg 1; whnf
    · exact ⟨by kernel_rfl, by kernel_rfl⟩
    · rfl
    · kernel_rfl)
 | (show inO _ _ = true; rfl)
 | (apply aw_cond_kt
    · conv => lhs; whnf
    · assumption)
 | refine aw_seq ?_
 | refine aw_region ?_
 | refine awo_nil ?_
 | refine k_seq ?_
 | refine aw_block ?_
 | refine aw_skip ?_
 | (apply s_pick_t rfl rfl
    · conv => lhs; whnf
    · conv => lhs; whnf
    · first | exact bT1 (by assumption) | exact bT2 (by assumption))
 | (apply s_pick_f rfl rfl
    · conv => lhs; whnf
    · conv => lhs; whnf
    · first | exact bF1 (by assumption) | exact bF2 (by assumption))
 | (apply s_val rfl
    · conv => lhs; whnf
    · conv => lhs; whnf; arg 2; whnf)
 | (apply s_wanted_val rfl
    · conv => lhs; whnf
    · conv => lhs; whnf
    · first | rfl | assumption
    · conv => lhs; whnf; arg 2; whnf)
 | (apply s_skipU rfl
    · conv => lhs; whnf
    · conv => lhs; whnf
    · first | rfl | assumption)
 | (apply aw_cond_t
    · conv => lhs; whnf; arg 1; arg 1; whnf)
 | refine aw_ret ?_
 | refine k_seq_ret ?_
 | refine k_block_ret ?_
 | refine k_loop_ret ?_
 | refine k_end_ret ?_
 | (refine ⟨_, by conv => lhs; whnf; arg 2; whnf, ?_⟩; conv => rhs; whnf)
 | exact trivial)
          all_goals first
            | exact i64_ok (by omega)
            | exact at_in hi
            | exact at_in hi2
            | rfl
            | skip
        · obtain ⟨f0a, f0b, k0⟩ := b_t (t := (((gD a i).f 0).n != ((gD c i).f 0).n)) e0 rfl
          obtain ⟨f1a, f1b, k1⟩ := b_t (t := (!(((gD a i).f 1).s.toList == ((gD c i).f 1).s.toList))) e1 rfl
          rw [e2] at h2
          have e : opEq k (gD a i) (gD c i) = false := by unfold opEq; (try unfold sEq); simp only [e0, e1, e2, Bool.true_and, Bool.false_and, Bool.and_false]
          rw [eqL_bad hi e, Bool.false_and]
          repeat' (first
 | (apply aw_drawA ([(1,[2]),(6,[3])]) ([(10,[6]),(11,[7]),(12,[6]),(13,[7])]) ([(10,6),(11,7)]) rfl (by kernel_rfl) (by kernel_rfl) (by kernel_rfl) (by intro p hp; simp only [List.mem_cons, List.not_mem_nil, or_false] at hp; rcases hp with rfl | rfl <;> (repeat' (first | exact fresh_S rfl | refine fresh_put ?_ rfl | refine fresh_res ?_ rfl rfl))))
 | apply h_nil
 | (apply h_alloc rfl rfl rfl rfl
    · conv => lhs; whnf; arg 1; whnf
    · rfl
    · rfl
    · kernel_rfl)
 | (apply h_val rfl
    · conv => lhs; whnf
    · conv => lhs; whnf; arg 2; whnf
    · kernel_rfl)
 | (apply h_store rfl rfl rfl
    · conv => lhs; whnf
    · rfl
    · conv => lhs; whnf; arg 1; whnf
    · conv => lhs; whnf; arg 1; whnf
    · exact ⟨by kernel_rfl, by kernel_rfl⟩
    · rfl
    · kernel_rfl)
 | (show inO _ _ = true; rfl)
 | (apply aw_cond_kt
    · conv => lhs; whnf
    · assumption)
 | refine aw_seq ?_
 | refine aw_region ?_
 | refine awo_nil ?_
 | refine k_seq ?_
 | refine aw_block ?_
 | refine aw_skip ?_
 | (apply s_pick_f rfl rfl
    · conv => lhs; whnf
    · conv => lhs; whnf
    · first | exact bF1 (by assumption) | exact bF2 (by assumption))
 | (apply s_val rfl
    · conv => lhs; whnf
    · conv => lhs; whnf; arg 2; whnf)
 | (apply s_wanted_val rfl
    · conv => lhs; whnf
    · conv => lhs; whnf
    · first | rfl | assumption
    · conv => lhs; whnf; arg 2; whnf)
 | (apply s_wanted_call rfl
    · conv => lhs; whnf
    · conv => lhs; whnf
    · first | rfl | assumption
    · conv => lhs; whnf
    · first | exact h2)
 | (apply s_skipU rfl
    · conv => lhs; whnf
    · conv => lhs; whnf
    · first | rfl | assumption)
 | (apply aw_cond_t
    · conv => lhs; whnf; arg 1; arg 1; whnf)
 | refine aw_ret ?_
 | refine k_seq_ret ?_
 | refine k_block_ret ?_
 | refine k_loop_ret ?_
 | refine k_end_ret ?_
 | (refine ⟨_, by conv => lhs; whnf; arg 2; whnf, ?_⟩; conv => rhs; whnf)
 | exact trivial)
          all_goals first
            | exact i64_ok (by omega)
            | exact at_in hi
            | exact at_in hi2
            | rfl
            | skip
        · obtain ⟨f0a, f0b, k0⟩ := b_t (t := (((gD a i).f 0).n != ((gD c i).f 0).n)) e0 rfl
          obtain ⟨f1a, f1b, k1⟩ := b_t (t := (!(((gD a i).f 1).s.toList == ((gD c i).f 1).s.toList))) e1 rfl
          rw [e2] at h2
          rw [e3] at h3
          have e : opEq k (gD a i) (gD c i) = false := by unfold opEq; (try unfold sEq); simp only [e0, e1, e2, e3, Bool.true_and, Bool.false_and, Bool.and_false]
          rw [eqL_bad hi e, Bool.false_and]
          repeat' (first
 | (apply aw_drawA ([(1,[2]),(6,[3])]) ([(10,[6]),(11,[7]),(12,[6]),(13,[7])]) ([(10,6),(11,7)]) rfl (by kernel_rfl) (by kernel_rfl) (by kernel_rfl) (by intro p hp; simp only [List.mem_cons, List.not_mem_nil, or_false] at hp; rcases hp with rfl | rfl <;> (repeat' (first | exact fresh_S rfl | refine fresh_put ?_ rfl | refine fresh_res ?_ rfl rfl))))
 | apply h_nil
 | (apply h_alloc rfl rfl rfl rfl
    · conv => lhs; whnf; arg 1; whnf
    · rfl
    · rfl
    · kernel_rfl)
 | (apply h_val rfl
    · conv => lhs; whnf
    · conv => lhs; whnf; arg 2; whnf
    · kernel_rfl)
 | (apply h_store rfl rfl rfl
    · conv => lhs; whnf
    · rfl
    · conv => lhs; whnf; arg 1; whnf
    · conv => lhs; whnf; arg 1; whnf
    · exact ⟨by kernel_rfl, by kernel_rfl⟩
    · rfl
    · kernel_rfl)
 | (show inO _ _ = true; rfl)
 | (apply aw_cond_kt
    · conv => lhs; whnf
    · assumption)
 | refine aw_seq ?_
 | refine aw_region ?_
 | refine awo_nil ?_
 | refine k_seq ?_
 | refine aw_block ?_
 | refine aw_skip ?_
 | (apply s_pick_f rfl rfl
    · conv => lhs; whnf
    · conv => lhs; whnf
    · first | exact bF1 (by assumption) | exact bF2 (by assumption))
 | (apply s_val rfl
    · conv => lhs; whnf
    · conv => lhs; whnf; arg 2; whnf)
 | (apply s_wanted_val rfl
    · conv => lhs; whnf
    · conv => lhs; whnf
    · first | rfl | assumption
    · conv => lhs; whnf; arg 2; whnf)
 | (apply s_wanted_call rfl
    · conv => lhs; whnf
    · conv => lhs; whnf
    · first | rfl | assumption
    · conv => lhs; whnf
    · first | exact h2 | exact h3)
 | (apply aw_cond_t
    · conv => lhs; whnf; arg 1; arg 1; whnf)
 | refine aw_ret ?_
 | refine k_seq_ret ?_
 | refine k_block_ret ?_
 | refine k_loop_ret ?_
 | refine k_end_ret ?_
 | (refine ⟨_, by conv => lhs; whnf; arg 2; whnf, ?_⟩; conv => rhs; whnf)
 | exact trivial)
          all_goals first
            | exact i64_ok (by omega)
            | exact at_in hi
            | exact at_in hi2
            | rfl
            | skip
        · obtain ⟨f0a, f0b, k0⟩ := b_t (t := (((gD a i).f 0).n != ((gD c i).f 0).n)) e0 rfl
          obtain ⟨f1a, f1b, k1⟩ := b_t (t := (!(((gD a i).f 1).s.toList == ((gD c i).f 1).s.toList))) e1 rfl
          rw [e2] at h2
          rw [e3] at h3
          have e : opEq k (gD a i) (gD c i) = true := by unfold opEq; (try unfold sEq); simp only [e0, e1, e2, e3, Bool.true_and, Bool.false_and, Bool.and_false]; try rfl
          repeat' (first
 | (apply aw_drawA ([(1,[2]),(6,[3])]) ([(10,[6]),(11,[7]),(12,[6]),(13,[7])]) ([(10,6),(11,7)]) rfl (by kernel_rfl) (by kernel_rfl) (by kernel_rfl) (by intro p hp; simp only [List.mem_cons, List.not_mem_nil, or_false] at hp; rcases hp with rfl | rfl <;> (repeat' (first | exact fresh_S rfl | refine fresh_put ?_ rfl | refine fresh_res ?_ rfl rfl))))
 | apply h_nil
 | (apply h_alloc rfl rfl rfl rfl
    · conv => lhs; whnf; arg 1; whnf
    · rfl
    · rfl
    · kernel_rfl)
 | (apply h_val rfl
    · conv => lhs; whnf
    · conv => lhs; whnf; arg 2; whnf
    · kernel_rfl)
 | (apply h_store rfl rfl rfl
    · conv => lhs; whnf
    · rfl
    · conv => lhs; whnf; arg 1; whnf
    · conv => lhs; whnf; arg 1; whnf
    · exact ⟨by kernel_rfl, by kernel_rfl⟩
    · rfl
    · kernel_rfl)
 | (show inO _ _ = true; rfl)
 | (apply aw_cond_kt
    · conv => lhs; whnf
    · assumption)
 | refine aw_seq ?_
 | refine aw_region ?_
 | refine awo_nil ?_
 | refine k_seq ?_
 | refine k_block ?_
 | refine aw_block ?_
 | refine aw_skip ?_
 | (apply s_pick_f rfl rfl
    · conv => lhs; whnf
    · conv => lhs; whnf
    · first | exact bF1 (by assumption) | exact bF2 (by assumption))
 | (apply s_val rfl
    · conv => lhs; whnf
    · conv => lhs; whnf; arg 2; whnf)
 | (apply s_wanted_val rfl
    · conv => lhs; whnf
    · conv => lhs; whnf
    · first | rfl | assumption
    · conv => lhs; whnf; arg 2; whnf)
 | (apply s_wanted_call rfl
    · conv => lhs; whnf
    · conv => lhs; whnf
    · first | rfl | assumption
    · conv => lhs; whnf
    · first | exact h2 | exact h3)
 | (apply aw_cond_f
    · conv => lhs; whnf; arg 1; arg 1; whnf)
 | exact trivial)
          all_goals first
            | exact i64_ok (by omega)
            | exact at_in hi
            | exact at_in hi2
            | exact k_loop_next (j' := j - 1) (by omega) ⟨i + 1, by omega, all_next hall e, Sub.live ⟨rfl, rfl, rfl, trivial⟩ ⟨rfl, rfl, trivial⟩⟩
            | skip
      · have f1 : decide ((i : Int) < (a.length : Nat)) = false := decide_eq_false (by omega)
        rw [eqL_all hac fun q hq => hall q (by omega), Bool.true_and]
        clear hall
        repeat' (first
 | (apply aw_cond_kf
    · conv => lhs; whnf
    · assumption)
 | refine aw_seq ?_
 | refine aw_region ?_
 | refine awo_nil ?_
 | refine k_seq ?_
 | refine aw_block ?_
 | (apply s_val rfl
    · conv => lhs; whnf
    · conv => lhs; whnf; arg 2; whnf)
 | refine aw_exit ?_
 | refine k_seq_exit ?_
 | refine k_block_hit rfl ?_
 | refine k_loop_exit ?_
 | exact trivial)
        refine aw_loop (fun j st => ∃ i, i + j = b.length ∧ (∀ q, q < i → frgEq k (gD b q) (gD d q) = true) ∧ Sub (cx EN Tryz.prog s w he) st (HFg a b c d i)) b.length ⟨0, by omega, fun q hq => by omega, Sub.live ⟨rfl, rfl, rfl, trivial⟩ ⟨rfl, rfl, trivial⟩⟩ ?_
        clear hij f1 hi
        rintro j st ⟨i, hij, hall, hs2⟩
        refine aw_sub hs2 ?_
        clear hs2
        by_cases hi : i < b.length
        · have f1 : decide ((i : Int) < (b.length : Nat)) = true := decide_eq_true (by omega)
          have hi2 : i < d.length := by omega
          have bx := itm_bulk hi hb
          have by_ := itm_bulk hi2 hd
          have bk := itm_bulk hi hkb
          have h2 := selsR2_ac k ((gD b i).f 2).l ((gD d i).f 2).l (by have := fld_bulk (gD b i) 2; omega) (by have := fld_bulk (gD b i) 2; omega) (by have := fld_bulk (gD d i) 2; omega)
          rcases chain3 (((gD b i).f 0).s.toList == ((gD d i).f 0).s.toList) (((gD b i).f 1).s.toList == ((gD d i).f 1).s.toList) (eqL (selEq k) ((gD b i).f 2).l ((gD d i).f 2).l) with e0 | ⟨e0, e1⟩ | ⟨e0, e1, e2⟩ | ⟨e0, e1, e2⟩
          · obtain ⟨f0a, f0b, k0⟩ := b_f (t := (!(((gD b i).f 0).s.toList == ((gD d i).f 0).s.toList))) e0 rfl
            have e : frgEq k (gD b i) (gD d i) = false := by unfold frgEq; (try unfold sEq); simp only [e0, Bool.true_and, Bool.false_and, Bool.and_false]
            rw [eqL_bad hi e]
            repeat' (first
 | (apply aw_drawA ([(1,[2]),(6,[3])]) ([(10,[9]),(11,[10]),(12,[9]),(13,[10])]) ([(10,9),(11,10)]) rfl (by kernel_rfl) (by kernel_rfl) (by kernel_rfl) (by intro p hp; simp only [List.mem_cons, List.not_mem_nil, or_false] at hp; rcases hp with rfl | rfl <;> (repeat' (first | exact fresh_S rfl | refine fresh_put ?_ rfl | refine fresh_res ?_ rfl rfl))))
 | apply h_nil
 | (apply h_alloc rfl rfl rfl rfl
    · conv => lhs; whnf; arg 1; whnf
    · rfl
    · rfl
    · kernel_rfl)
 | (apply h_val rfl
    · conv => lhs; whnf
    · conv => lhs; whnf; arg 2; whnf
    · kernel_rfl)
 | (apply h_store rfl rfl rfl
    · conv => lhs; whnf
    · rfl
    · conv => lhs; whnf; arg 1; whnf
    · conv => lhs; whnf; arg 1; whnf
    · exact ⟨by kernel_rfl, by kernel_rfl⟩
    · rfl
    · kernel_rfl)
 | (show inO _ _ = true; rfl)
 | (apply aw_cond_kt
    · conv => lhs; whnf
    · assumption)
 | refine aw_seq ?_
 | refine aw_region ?_
 | refine awo_nil ?_
 | refine k_seq ?_
 | refine aw_block ?_
 | refine aw_skip ?_
 | (apply s_pick_t rfl rfl
    · conv => lhs; whnf
    · conv => lhs; whnf
    · first | exact bT1 (by assumption) | exact bT2 (by assumption))
 | (apply s_val rfl
    · conv => lhs; whnf
    · conv => lhs; whnf; arg 2; whnf)
 | (apply s_skipU rfl
    · conv => lhs; whnf
    · conv => lhs; whnf
    · first | rfl | assumption)
 | (apply aw_cond_t
    · conv => lhs; whnf; arg 1; arg 1; whnf)
 | refine aw_ret ?_
 | refine k_seq_ret ?_
 | refine k_block_ret ?_
 | refine k_loop_ret ?_
 | refine k_end_ret ?_
 | (refine ⟨_, by conv => lhs; whnf; arg 2; whnf, ?_⟩; conv => rhs; whnf)
 | exact trivial)
            all_goals first
              | exact i64_ok (by omega)
              | exact at_in hi
              | exact at_in hi2
              | rfl
              | skip
          · obtain ⟨f0a, f0b, k0⟩ := b_t (t := (!(((gD b i).f 0).s.toList == ((gD d i).f 0).s.toList))) e0 rfl
            obtain ⟨f1a, f1b, k1⟩ := b_f (t := (!(((gD b i).f 1).s.toList == ((gD d i).f 1).s.toList))) e1 rfl
            have e : frgEq k (gD b i) (gD d i) = false := by unfold frgEq; (try unfold sEq); simp only [e0, e1, Bool.true_and, Bool.false_and, Bool.and_false]
            rw [eqL_bad hi e]
            repeat' (first
 | (apply aw_drawA ([(1,[2]),(6,[3])]) ([(10,[9]),(11,[10]),(12,[9]),(13,[10])]) ([(10,9),(11,10)]) rfl (by kernel_rfl) (by kernel_rfl) (by kernel_rfl) (by intro p hp; simp only [List.mem_cons, List.not_mem_nil, or_false] at hp; rcases hp with rfl | rfl <;> (repeat' (first | exact fresh_S rfl | refine fresh_put ?_ rfl | refine fresh_res ?_ rfl rfl))))
 | apply h_nil
 | (apply h_alloc rfl rfl rfl rfl
    · conv => lhs; whnf; arg 1; whnf
    · rfl
    · rfl
    · kernel_rfl)
 | (apply h_val rfl
    · conv => lhs; whnf
    · conv => lhs; whnf; arg 2; whnf
    · kernel_rfl)
 | (apply h_store rfl rfl rfl
    · conv => lhs; whnf
    · rfl
    · conv => lhs; whnf; arg 1; whnf
    · conv => lhs; whnf; arg 1; whnf
    · exact ⟨by kernel_rfl, by kernel_rfl⟩
    · rfl
    · kernel_rfl)
 | (show inO _ _ = true; rfl)
 | (apply aw_cond_kt
    · conv => lhs; whnf
    · assumption)
 | refine aw_seq ?_
 | refine aw_region ?_
 | refine awo_nil ?_
 | refine k_seq ?_
 | refine aw_block ?_
 | refine aw_skip ?_
 | (apply s_pick_t rfl rfl
    · conv => lhs; whnf
    · conv => lhs; whnf
    · first | exact bT1 (by assumption) | exact bT2 (by assumption))
 | (apply s_pick_f rfl rfl
    · conv => lhs; whnf
    · conv => lhs; whnf
    · first | exact bF1 (by assumption) | exact bF2 (by assumption))
 | (apply s_val rfl
    · conv => lhs; whnf
    · conv => lhs; whnf; arg 2; whnf)
 | (apply s_wanted_val rfl
    · conv => lhs; whnf
    · conv => lhs; whnf
    · first | rfl | assumption
    · conv => lhs; whnf; arg 2; whnf)
 | (apply s_skipU rfl
    · conv => lhs; whnf
    · conv => lhs; whnf
    · first | rfl | assumption)
 | (apply aw_cond_t
    · conv => lhs; whnf; arg 1; arg 1; whnf)
 | refine aw_ret ?_
 | refine k_seq_ret ?_
 | refine k_block_ret ?_
 | refine k_loop_ret ?_
 | refine k_end_ret ?_
 | (refine ⟨_, by conv => lhs; whnf; arg 2; whnf, ?_⟩; conv => rhs; whnf)
 | exact trivial)
            all_goals first
              | exact i64_ok (by omega)
              | exact at_in hi
              | exact at_in hi2
              | rfl
              | skip
          · obtain ⟨f0a, f0b, k0⟩ := b_t (t := (!(((gD b i).f 0).s.toList == ((gD d i).f 0).s.toList))) e0 rfl
            obtain ⟨f1a, f1b, k1⟩ := b_t (t := (!(((gD b i).f 1).s.toList == ((gD d i).f 1).s.toList))) e1 rfl
            rw [e2] at h2
            have e : frgEq k (gD b i) (gD d i) = false := by unfold frgEq; (try unfold sEq); simp only [e0, e1, e2, Bool.true_and, Bool.false_and, Bool.and_false]
            rw [eqL_bad hi e]
            repeat' (first
 | (apply aw_drawA ([(1,[2]),(6,[3])]) ([(10,[9]),(11,[10]),(12,[9]),(13,[10])]) ([(10,9),(11,10)]) rfl (by kernel_rfl) (by kernel_rfl) (by kernel_rfl) (by intro p hp; simp only [List.mem_cons, List.not_mem_nil, or_false] at hp; rcases hp with rfl | rfl <;> (repeat' (first | exact fresh_S rfl | refine fresh_put ?_ rfl | refine fresh_res ?_ rfl rfl))))
 | apply h_nil
 | (apply h_alloc rfl rfl rfl rfl
    · conv => lhs; whnf; arg 1; whnf
    · rfl
    · rfl
    · kernel_rfl)
 | (apply h_val rfl
    · conv => lhs; whnf
    · conv => lhs; whnf; arg 2; whnf
    · kernel_rfl)
 | (apply h_store rfl rfl rfl
    · conv => lhs; whnf
    · rfl
    · conv => lhs; whnf; arg 1; whnf
    · conv => lhs; whnf; arg 1; whnf
    · exact ⟨by kernel_rfl, by kernel_rfl⟩
    · rfl
    · kernel_rfl)
 | (show inO _ _ = true; rfl)
 | (apply aw_cond_kt
    · conv => lhs; whnf
    · assumption)
 | refine aw_seq ?_
 | refine aw_region ?_
 | refine awo_nil ?_
 | refine k_seq ?_
 | refine aw_block ?_
 | refine aw_skip ?_
 | (apply s_pick_f rfl rfl
    · conv => lhs; whnf
    · conv => lhs; whnf
    · first | exact bF1 (by assumption) | exact bF2 (by assumption))
 | (apply s_val rfl
    · conv => lhs; whnf
    · conv => lhs; whnf; arg 2; whnf)
 | (apply s_wanted_val rfl
    · conv => lhs; whnf
    · conv => lhs; whnf
    · first | rfl | assumption
    · conv => lhs; whnf; arg 2; whnf)
 | (apply s_wanted_call rfl
    · conv => lhs; whnf
    · conv => lhs; whnf
    · first | rfl | assumption
    · conv => lhs; whnf
    · first | exact h2)
 | (apply aw_cond_t
    · conv => lhs; whnf; arg 1; arg 1; whnf)
 | refine aw_ret ?_
 | refine k_seq_ret ?_
 | refine k_block_ret ?_
 | refine k_loop_ret ?_
 | refine k_end_ret ?_
 | (refine ⟨_, by conv => lhs; whnf; arg 2; whnf, ?_⟩; conv => rhs; whnf)
 | exact trivial)
            all_goals first
              | exact i64_ok (by omega)
              | exact at_in hi
              | exact at_in hi2
              | rfl
              | skip
          · obtain ⟨f0a, f0b, k0⟩ := b_t (t := (!(((gD b i).f 0).s.toList == ((gD d i).f 0).s.toList))) e0 rfl
            obtain ⟨f1a, f1b, k1⟩ := b_t (t := (!(((gD b i).f 1).s.toList == ((gD d i).f 1).s.toList))) e1 rfl
            rw [e2] at h2
            have e : frgEq k (gD b i) (gD d i) = true := by unfold frgEq; (try unfold sEq); simp only [e0, e1, e2, Bool.true_and, Bool.false_and, Bool.and_false]; try rfl
            repeat' (first
 | (apply aw_drawA ([(1,[2]),(6,[3])]) ([(10,[9]),(11,[10]),(12,[9]),(13,[10])]) ([(10,9),(11,10)]) rfl (by kernel_rfl) (by kernel_rfl) (by kernel_rfl) (by intro p hp; simp only [List.mem_cons, List.not_mem_nil, or_false] at hp; rcases hp with rfl | rfl <;> (repeat' (first | exact fresh_S rfl | refine fresh_put ?_ rfl | refine fresh_res ?_ rfl rfl))))
 | apply h_nil
 | (apply h_alloc rfl rfl rfl rfl
    · conv => lhs; whnf; arg 1; whnf
    · rfl
    · rfl
    · kernel_rfl)
 | (apply h_val rfl
    · conv => lhs; whnf
    · conv => lhs; whnf; arg 2; whnf
    · kernel_rfl)
 | (apply h_store rfl rfl rfl
    · conv => lhs; whnf
    · rfl
    · conv => lhs; whnf; arg 1; whnf
    · conv => lhs; whnf; arg 1; whnf
    · exact ⟨by kernel_rfl, by kernel_rfl⟩
    · rfl
    · kernel_rfl)
 | (show inO _ _ = true; rfl)
 | (apply aw_cond_kt
    · conv => lhs; whnf
    · assumption)
 | refine aw_seq ?_
 | refine aw_region ?_
 | refine awo_nil ?_
 | refine k_seq ?_
 | refine k_block ?_
 | refine aw_block ?_
 | refine aw_skip ?_
 | (apply s_pick_f rfl rfl
    · conv => lhs; whnf
    · conv => lhs; whnf
    · first | exact bF1 (by assumption) | exact bF2 (by assumption))
 | (apply s_val rfl
    · conv => lhs; whnf
    · conv => lhs; whnf; arg 2; whnf)
 | (apply s_wanted_val rfl
    · conv => lhs; whnf
    · conv => lhs; whnf
    · first | rfl | assumption
    · conv => lhs; whnf; arg 2; whnf)
 | (apply s_wanted_call rfl
    · conv => lhs; whnf
    · conv => lhs; whnf
    · first | rfl | assumption
    · conv => lhs; whnf
    · first | exact h2)
 | (apply aw_cond_f
    · conv => lhs; whnf; arg 1; arg 1; whnf)
 | exact trivial)
            all_goals first
              | exact i64_ok (by omega)
              | exact at_in hi
              | exact at_in hi2
              | exact k_loop_next (j' := j - 1) (by omega) ⟨i + 1, by omega, all_next hall e, Sub.live ⟨rfl, rfl, rfl, trivial⟩ ⟨rfl, rfl, trivial⟩⟩
              | skip
        · have f1 : decide ((i : Int) < (b.length : Nat)) = false := decide_eq_false (by omega)
          rw [eqL_all hbd fun q hq => hall q (by omega)]
          repeat' (first
 | (apply aw_cond_kf
    · conv => lhs; whnf
    · assumption)
 | refine aw_seq ?_
 | refine aw_region ?_
 | refine awo_nil ?_
 | refine k_seq ?_
 | (apply s_val rfl
    · conv => lhs; whnf
    · conv => lhs; whnf; arg 2; whnf)
 | refine aw_ret ?_
 | refine aw_exit ?_
 | refine k_seq_exit ?_
 | refine k_block_hit rfl ?_
 | refine k_loop_exit ?_
 | refine k_end_ret ?_
 | (refine ⟨_, by conv => lhs; whnf; arg 2; whnf, ?_⟩; conv => rhs; whnf)
 | exact trivial)
    · obtain ⟨f1a, f1b, k1⟩ := b_f (t := ((b.length : Int) != (d.length : Int))) (e := ((b.length : Int) == (d.length : Int))) (by simp; omega) rfl
      rw [eqL_ne f1a, Bool.and_false]
      refine ac_enter 109 Tryz.func33 rfl rfl rfl rfl ?_
      intro s w he
      repeat' (first
 | (apply aw_cond_kt
    · conv => lhs; whnf
    · assumption)
 | refine aw_seq ?_
 | refine aw_region ?_
 | refine awo_nil ?_
 | refine k_seq ?_
 | (apply s_pick_f rfl rfl
    · conv => lhs; whnf
    · conv => lhs; whnf
    · first | exact bF1 (by assumption) | exact bF2 (by assumption))
 | (apply s_val rfl
    · conv => lhs; whnf
    · conv => lhs; whnf; arg 2; whnf)
 | (apply s_box rfl rfl rfl rfl
    · conv => lhs; whnf; arg 1; whnf
    · rfl)
 | (apply s_wanted_val rfl
    · conv => lhs; whnf
    · conv => lhs; whnf
    · first | rfl | assumption
    · conv => lhs; whnf; arg 2; whnf)
 | refine aw_ret ?_
 | refine k_seq_ret ?_
 | refine k_end_ret ?_
 | (refine ⟨_, by conv => lhs; whnf; arg 2; whnf, ?_⟩; conv => rhs; whnf)
 | exact trivial)
  · obtain ⟨f0a, f0b, k0⟩ := b_f (t := ((a.length : Int) != (c.length : Int))) (e := ((a.length : Int) == (c.length : Int))) (by simp; omega) rfl
    rw [eqL_ne f0a, Bool.false_and]
    refine ac_enter 109 Tryz.func33 rfl rfl rfl rfl ?_
    intro s w he
    repeat' (first
 | refine aw_seq ?_
 | refine aw_region ?_
 | refine awo_nil ?_
 | refine k_seq ?_
 | (apply s_pick_t rfl rfl
    · conv => lhs; whnf
    · conv => lhs; whnf
    · first | exact bT1 (by assumption) | exact bT2 (by assumption))
 | (apply s_val rfl
    · conv => lhs; whnf
    · conv => lhs; whnf; arg 2; whnf)
 | (apply s_box rfl rfl rfl rfl
    · conv => lhs; whnf; arg 1; whnf
    · rfl)
 | (apply s_skipU rfl
    · conv => lhs; whnf
    · conv => lhs; whnf
    · first | rfl | assumption)
 | (apply aw_cond_t
    · conv => lhs; whnf; arg 1; arg 1; whnf)
 | refine aw_ret ?_
 | refine k_seq_ret ?_
 | refine k_end_ret ?_
 | (refine ⟨_, by conv => lhs; whnf; arg 2; whnf, ?_⟩; conv => rhs; whnf)
 | exact trivial)
set_option maxHeartbeats 8000000 in
set_option maxRecDepth 100000 in
theorem sameR9_ac (k : Nat) (a b c d : List D) (hka : bulkL a ≤ k) (hkb : bulkL b ≤ k) (ha : bulkL a ≤ 100000000) (hb : bulkL b ≤ 100000000) (hc : bulkL c ≤ 100000000) (hd : bulkL d ≤ 100000000) : AC EN Tryz.prog 16 [.agg [.sl 57 a, .sl 116 b], .agg [.sl 57 c, .sl 116 d]] (.c (.bool (queEq k a b c d))) := by
  have h := alikeR_ac k a b c d hka hkb ha hb hc hd
  refine ac_enter 8 Tryz.func16 rfl rfl rfl rfl ?_
  intro s w he
  repeat' (first
 | refine aw_seq ?_
 | refine aw_region ?_
 | refine awo_nil ?_
 | refine k_seq ?_
 | (apply s_val rfl
    · conv => lhs; whnf
    · conv => lhs; whnf; arg 2; whnf)
 | (apply s_call rfl
    · conv => lhs; whnf
    · conv => lhs; whnf
    · first | exact h)
 | (apply s_box rfl rfl rfl rfl
    · conv => lhs; whnf; arg 1; whnf
    · rfl)
 | refine aw_ret ?_
 | refine k_end_ret ?_
 | (refine ⟨_, by conv => lhs; whnf; arg 2; whnf, ?_⟩; conv => rhs; whnf)
 | exact trivial)
end Go.Proofs.YthjiclhfhjdjpaaGreatDoor
namespace Go.Proofs.YthjiclhfhjdjpaaGreatDoor
open Go.ChangeShapes Go.WideShapes Go.ChangeAt Go.RowKit
set_option linter.unusedSectionVars false
attribute [local irreducible] wpList Calls Code.wp AW AWo OpOk seqK blockK scopeK loopK endK AC absLex Yld Sub
attribute [local irreducible] ACB ACX absLexG YldG absLexH
set_option maxHeartbeats 8000000 in
set_option maxRecDepth 100000 in
theorem same_text {m j1 j2 : Nat} {a b c d : List D} (h1 : queR (qD a b) = true) (h2 : queR (qD c d) = true) (d1 : DocOk 1048576 24 (qD a b)) (d2 : DocOk 1048576 24 (qD c d)) (f1 : Fits Tryz.prog j1 41 (qD a b)) (f2 : Fits Tryz.prog j2 41 (qD c d)) (ha : bulkL a ≤ m) (hb : bulkL b ≤ m) :
    ((bs (docT 1048576 (24 + 1) (qD a b))).toList == (bs (docT 1048576 (24 + 1) (qD c d))).toList) = queEq m a b c d := by
  rw [toL_tx, toL_tx, tx_bs, tx_bs]
  cases h : queEq m a b c d with
  | true =>
    obtain ⟨rfl, rfl⟩ := que_eq h1 h2 f1 f2 h
    simp
  | false =>
    rw [beq_eq_false_iff_ne]
    intro e
    have e := docT_inj h1 d1 f1 h2 d2 f2 e
    cases e
    rw [queEq_self ha hb] at h
    cases h
set_option maxHeartbeats 8000000 in
set_option maxRecDepth 100000 in
theorem nb_eq {x b : Bool} (h : x = b) : (!(x == b)) = false := by subst h; simp
set_option maxHeartbeats 8000000 in
set_option maxRecDepth 100000 in
theorem compares_ac {j1 j2 : Nat} (a b c d : List D) (f1 : Fits Tryz.prog j1 41 (qD a b)) (f2 : Fits Tryz.prog j2 41 (qD c d)) (w1 : wideD (qD a b)) (w2 : wideD (qD c d)) (h1 : bulkD (qD a b) ≤ 1048576) (h2 : bulkD (qD c d) ≤ 1048576) : AC EN Tryz.prog 7 [.agg [.sl 57 a, .sl 116 b], .agg [.sl 57 c, .sl 116 d]] (.c (.bool true)) := by
  obtain ⟨ha, hb⟩ := qD_bulk h1
  obtain ⟨hc, hd⟩ := qD_bulk h2
  have g0 := example9_ac
  have g1 := large_ac a b (by omega) (by omega)
  have g2 := large_ac c d (by omega) (by omega)
  have g3 := sameQ_ac 1048576 a b c d ha hb (by omega) (by omega) (by omega) (by omega)
  have g4 := sameR9_ac 1048576 a b c d ha hb (by omega) (by omega) (by omega) (by omega)
  have g5 := rightF_ac a b (by omega) (by omega)
  have g6 := rightF_ac c d (by omega) (by omega)
  cases x1 : largeV a b with
  | true =>
    rw [x1] at g1
    refine ac_enter 37 Tryz.func7 rfl rfl rfl rfl ?_
    intro s w he
    repeat' (first
 | refine aw_seq ?_
 | refine aw_region ?_
 | refine awo_nil ?_
 | refine k_seq ?_
 | (apply s_val rfl
    · conv => lhs; whnf
    · conv => lhs; whnf; arg 2; whnf)
 | (apply s_call rfl
    · conv => lhs; whnf
    · conv => lhs; whnf
    · first | exact g0 | exact g1)
 | (apply s_box rfl rfl rfl rfl
    · conv => lhs; whnf; arg 1; whnf
    · rfl)
 | (apply s_skipU rfl
    · conv => lhs; whnf
    · conv => lhs; whnf
    · first | rfl | assumption)
 | (apply aw_cond_t
    · conv => lhs; whnf; arg 1; arg 1; whnf)
 | refine aw_ret ?_
 | refine k_seq_ret ?_
 | refine k_end_ret ?_
 | (refine ⟨_, by conv => lhs; whnf; arg 2; whnf, ?_⟩; conv => rhs; whnf)
 | exact trivial)
    all_goals rfl
  | false =>
  rw [x1] at g1
  cases x2 : largeV c d with
  | true =>
    rw [x2] at g2
    refine ac_enter 37 Tryz.func7 rfl rfl rfl rfl ?_
    intro s w he
    repeat' (first
 | refine aw_seq ?_
 | refine aw_region ?_
 | refine awo_nil ?_
 | refine k_seq ?_
 | (apply s_val rfl
    · conv => lhs; whnf
    · conv => lhs; whnf; arg 2; whnf)
 | (apply s_call rfl
    · conv => lhs; whnf
    · conv => lhs; whnf
    · first | exact g0 | exact g1 | exact g2)
 | (apply s_box rfl rfl rfl rfl
    · conv => lhs; whnf; arg 1; whnf
    · rfl)
 | (apply s_wanted_val rfl
    · conv => lhs; whnf
    · conv => lhs; whnf
    · first | rfl | assumption
    · conv => lhs; whnf; arg 2; whnf)
 | (apply s_wanted_call rfl
    · conv => lhs; whnf
    · conv => lhs; whnf
    · first | rfl | assumption
    · conv => lhs; whnf
    · first | exact g0 | exact g1 | exact g2)
 | (apply aw_cond_t
    · conv => lhs; whnf; arg 1; arg 1; whnf)
 | refine aw_ret ?_
 | refine k_seq_ret ?_
 | refine k_end_ret ?_
 | (refine ⟨_, by conv => lhs; whnf; arg 2; whnf, ?_⟩; conv => rhs; whnf)
 | exact trivial)
    all_goals rfl
  | false =>
  rw [x2] at g2
  cases x3 : queR (qD a b) with
  | false =>
    have g5 : AC EN Tryz.prog 32 [.agg [.sl 57 a, .sl 116 b]] (.c (.bool false)) := by rw [← x3]; exact g5
    cases x5 : queEq 1048576 a b c d
    all_goals
      rw [x5] at g3 g4
      refine ac_enter 37 Tryz.func7 rfl rfl rfl rfl ?_
      intro s w he
      repeat' (first
 | refine aw_seq ?_
 | refine aw_region ?_
 | refine awo_nil ?_
 | refine k_seq ?_
 | refine aw_skip ?_
 | (apply s_val rfl
    · conv => lhs; whnf
    · conv => lhs; whnf; arg 2; whnf)
 | (apply s_call rfl
    · conv => lhs; whnf
    · conv => lhs; whnf
    · first | exact g0 | exact g1 | exact g2 | exact g3 | exact g4 | exact g5)
 | (apply s_box rfl rfl rfl rfl
    · conv => lhs; whnf; arg 1; whnf
    · rfl)
 | (apply s_wanted_val rfl
    · conv => lhs; whnf
    · conv => lhs; whnf
    · first | rfl | assumption
    · conv => lhs; whnf; arg 2; whnf)
 | (apply s_wanted_call rfl
    · conv => lhs; whnf
    · conv => lhs; whnf
    · first | rfl | assumption
    · conv => lhs; whnf
    · first | exact g0 | exact g1 | exact g2 | exact g3 | exact g4 | exact g5)
 | (apply aw_draw (by kernel_rfl) (by kernel_rfl))
 | apply y_nil
 | (apply y_val rfl
    · conv => lhs; whnf
    · conv => lhs; whnf; arg 2; whnf)
 | (apply y_call rfl
    · conv => lhs; whnf
    · conv => lhs; whnf
    · first | exact g0 | exact g1 | exact g2 | exact g3 | exact g4 | exact g5)
 | (apply y_skip rfl
    · conv => lhs; whnf
    · conv => lhs; whnf
    · first | rfl | assumption)
 | exact apartB_none
 | exact apartB_nil
 | exact (1000000 : Nat)
 | (apply aw_cond_f
    · conv => lhs; whnf; arg 1; arg 1; whnf)
 | refine aw_ret ?_
 | refine k_end_ret ?_
 | (refine ⟨_, by conv => lhs; whnf; arg 2; whnf, ?_⟩; conv => rhs; whnf)
 | exact trivial)
    all_goals first | rfl | exact (show Tryz.prog.underlying _ = some .bool by kernel_rfl)
  | true =>
  have g5 : AC EN Tryz.prog 32 [.agg [.sl 57 a, .sl 116 b]] (.c (.bool true)) := by rw [← x3]; exact g5
  cases x4 : queR (qD c d) with
  | false =>
    have g6 : AC EN Tryz.prog 32 [.agg [.sl 57 c, .sl 116 d]] (.c (.bool false)) := by rw [← x4]; exact g6
    cases x5 : queEq 1048576 a b c d
    all_goals
      rw [x5] at g3 g4
      refine ac_enter 37 Tryz.func7 rfl rfl rfl rfl ?_
      intro s w he
      repeat' (first
 | refine aw_seq ?_
 | refine aw_region ?_
 | refine awo_nil ?_
 | refine k_seq ?_
 | refine aw_skip ?_
 | (apply s_val rfl
    · conv => lhs; whnf
    · conv => lhs; whnf; arg 2; whnf)
 | (apply s_call rfl
    · conv => lhs; whnf
    · conv => lhs; whnf
    · first | exact g0 | exact g1 | exact g2 | exact g3 | exact g4 | exact g5 | exact g6)
 | (apply s_box rfl rfl rfl rfl
    · conv => lhs; whnf; arg 1; whnf
    · rfl)
 | (apply s_wanted_val rfl
    · conv => lhs; whnf
    · conv => lhs; whnf
    · first | rfl | assumption
    · conv => lhs; whnf; arg 2; whnf)
 | (apply s_wanted_call rfl
    · conv => lhs; whnf
    · conv => lhs; whnf
    · first | rfl | assumption
    · conv => lhs; whnf
    · first | exact g0 | exact g1 | exact g2 | exact g3 | exact g4 | exact g5 | exact g6)
 | (apply aw_draw (by kernel_rfl) (by kernel_rfl))
 | apply y_nil
 | (apply y_val rfl
    · conv => lhs; whnf
    · conv => lhs; whnf; arg 2; whnf)
 | (apply y_call rfl
    · conv => lhs; whnf
    · conv => lhs; whnf
    · first | exact g0 | exact g1 | exact g2 | exact g3 | exact g4 | exact g5 | exact g6)
 | (apply y_wanted_val rfl
    · conv => lhs; whnf
    · conv => lhs; whnf
    · first | rfl | assumption
    · conv => lhs; whnf; arg 2; whnf)
 | (apply y_wanted_call rfl
    · conv => lhs; whnf
    · conv => lhs; whnf
    · first | rfl | assumption
    · conv => lhs; whnf
    · first | exact g0 | exact g1 | exact g2 | exact g3 | exact g4 | exact g5 | exact g6)
 | (apply y_skip rfl
    · conv => lhs; whnf
    · conv => lhs; whnf
    · first | rfl | assumption)
 | exact apartB_none
 | exact apartB_nil
 | exact (1000000 : Nat)
 | (apply aw_cond_f
    · conv => lhs; whnf; arg 1; arg 1; whnf)
 | refine aw_ret ?_
 | refine k_end_ret ?_
 | (refine ⟨_, by conv => lhs; whnf; arg 2; whnf, ?_⟩; conv => rhs; whnf)
 | exact trivial)
    all_goals first | rfl | exact (show Tryz.prog.underlying _ = some .bool by kernel_rfl)
  | true =>
    have g6 : AC EN Tryz.prog 32 [.agg [.sl 57 c, .sl 116 d]] (.c (.bool true)) := by rw [← x4]; exact g6
    have d1 : DocOk 1048576 24 (qD a b) := docOk_of x3 w1 h1
    have d2 : DocOk 1048576 24 (qD c d) := docOk_of x4 w2 h2
    have hst := same_text x3 x4 d1 d2 f1 f2 ha hb
    have g7 := printP_ac _ _ a b d1
    have g8 := printP_ac _ _ c d d2
    unfold qD at hst
    generalize docT 1048576 (24 + 1) (.obj [.list a, .list b]) = T1 at g7 hst
    generalize docT 1048576 (24 + 1) (.obj [.list c, .list d]) = T2 at g8 hst
    cases x5 : queEq 1048576 a b c d
    all_goals
      rw [x5] at g3 g4 hst
      have k0 := nb_eq hst
      refine ac_enter 37 Tryz.func7 rfl rfl rfl rfl ?_
      intro s w he
      repeat' (first
 | (apply aw_cond_kf
    · conv => lhs; whnf
    · assumption)
 | refine aw_seq ?_
 | refine aw_region ?_
 | refine awo_nil ?_
 | refine k_seq ?_
 | refine aw_skip ?_
 | (apply s_val rfl
    · conv => lhs; whnf
    · conv => lhs; whnf; arg 2; whnf)
 | (apply s_call rfl
    · conv => lhs; whnf
    · conv => lhs; whnf
    · first | exact g0 | exact g1 | exact g2 | exact g3 | exact g4 | exact g5 | exact g6 | exact g7 | exact g8)
 | (apply s_box rfl rfl rfl rfl
    · conv => lhs; whnf; arg 1; whnf
    · rfl)
 | (apply s_wanted_val rfl
    · conv => lhs; whnf
    · conv => lhs; whnf
    · first | rfl | assumption
    · conv => lhs; whnf; arg 2; whnf)
 | (apply s_wanted_call rfl
    · conv => lhs; whnf
    · conv => lhs; whnf
    · first | rfl | assumption
    · conv => lhs; whnf
    · first | exact g0 | exact g1 | exact g2 | exact g3 | exact g4 | exact g5 | exact g6 | exact g7 | exact g8)
 | (apply aw_draw (by kernel_rfl) (by kernel_rfl))
 | apply y_nil
 | (apply y_val rfl
    · conv => lhs; whnf
    · conv => lhs; whnf; arg 2; whnf)
 | (apply y_call rfl
    · conv => lhs; whnf
    · conv => lhs; whnf
    · first | exact g0 | exact g1 | exact g2 | exact g3 | exact g4 | exact g5 | exact g6 | exact g7 | exact g8)
 | (apply y_wanted_val rfl
    · conv => lhs; whnf
    · conv => lhs; whnf
    · first | rfl | assumption
    · conv => lhs; whnf; arg 2; whnf)
 | (apply y_wanted_call rfl
    · conv => lhs; whnf
    · conv => lhs; whnf
    · first | rfl | assumption
    · conv => lhs; whnf
    · first | exact g0 | exact g1 | exact g2 | exact g3 | exact g4 | exact g5 | exact g6 | exact g7 | exact g8)
 | exact apartB_none
 | exact apartB_nil
 | exact (1000000 : Nat)
 | (apply aw_cond_f
    · conv => lhs; whnf; arg 1; arg 1; whnf)
 | refine aw_ret ?_
 | refine k_end_ret ?_
 | (refine ⟨_, by conv => lhs; whnf; arg 2; whnf, ?_⟩; conv => rhs; whnf)
 | exact trivial)
    all_goals first | rfl | exact (show Tryz.prog.underlying _ = some .bool by kernel_rfl)
set_option maxRecDepth 100000 in
set_option maxHeartbeats 8000000 in
theorem rowCompares {H : Type} {enc : TypeId × Value → H} {W : World} {v v2 : Value} {base : Nat} {dw dw2 : DataW H} {ps ps2 : List MemPlace} (hv : Value.okWide Tryz.prog W .any base 41 v) (hd : DataW.Trod enc Tryz.prog W 0 (fun _ => true) true 41 v dw ps) (hv2 : Value.okWide Tryz.prog W .any base 41 v2) (hd2 : DataW.Trod enc Tryz.prog W 0 (fun _ => true) true 41 v2 dw2 ps2)
    (hb : Rows.uptoBulk dw + Rows.uptoBulk dw2 ≤ 1048576) (he : EnvT W) :
    Calls Tryz.prog 7 #[v, v2] W fun e W' => e = .returned (.bool true) ∧ Below W.heap.size W W' := by
  obtain ⟨k, cs, a, b, rfl, hr, hf, hw, hbk⟩ := que_in hv hd (by omega)
  obtain ⟨k2, cs2, c, d, rfl, hr2, hf2, hw2, hbk2⟩ := que_in hv2 hd2 (by omega)
  exact calls_of_ac (compares_ac a b c d hf hf2 hw hw2 hbk hbk2) (relL2 hr hr2) he
set_option maxHeartbeats 8000000 in
set_option maxRecDepth 100000 in
theorem upto_two {H : Type} {d e : DataW H} {gs : List (DataW H)} (h : Rows.uptoSmall H (d :: e :: gs) = true) : Rows.uptoBulk d + Rows.uptoBulk e ≤ 1048576 := by
  have h1 : Rows.uptoBulkAll (d :: e :: gs) ≤ 1048576 := of_decide_eq_true h
  rw [Rows.uptoBulkAll, Rows.uptoBulkAll] at h1
  omega
end Go.Proofs.YthjiclhfhjdjpaaGreatDoor
namespace Go.Proofs.YthjiclhfhjdjpaaGreatDoor
open Go.ChangeShapes Go.WideShapes Go.ChangeAt Go.RowKit
attribute [local irreducible] wpList Calls Code.wp
set_option maxRecDepth 100000 in
theorem contractQueryprintCompares (H : Type) (enc : TypeId × Value → H) (W : World) (base : Nat) (args : Array Value) (ds gs : List (DataW H)) (before : List MemPlace)
    (hval : ∀ (j : Nat) t v, Tryz.f7.params[j]? = some t → args[j]? = some v → Value.okWide Tryz.prog W .any base t v)
    (hW : DataW.Whole enc Tryz.prog Tryz.f7.params.toList Rows.queryprintComparesSpec.vars false W args.toList ds gs before) (hL : laidMetH Tryz.prog Rows.queryprintComparesUptoRow.laid W)
    (hcond : ∀ k, (Rows.OpenSpec.upto Rows.queryprintComparesSpec).cond = some k → k H (ds ++ gs) = true)
    (hR : (DataW.weightsEach Tryz.prog (Tryz.f7.params.toList ++ (Rows.OpenSpec.upto Rows.queryprintComparesSpec).bare.plain.varTypes Tryz.prog) (ds ++ gs)).all (· ≤ reachBytes) = true) :
    Calls Tryz.prog 7 args W fun e W' => ∃ v, e = .returned v ∧ Rows.queryprintComparesSpec.post enc Tryz.prog Tryz.f7 false true false false W args v W' := by
  have hW' := hW
  obtain ⟨p, q, hA0, hV, rfl, hfz, hnd⟩ := hW
  have hA : DataW.TrodAll enc Tryz.prog W 0 (fun _ => true) true Tryz.f7.params.toList args.toList ds p := hA0
  rw [Tryz.params7] at hA hval hR
  obtain ⟨v0, vs0, d0, ds0, p0, q0, hargs, rfl, rfl, h0, r0⟩ := trodAll_cons hA
  obtain ⟨v1, vs1, d1, ds1, p1, q1, e1, rfl, rfl, h1, r1⟩ := trodAll_cons r0
  subst e1
  obtain ⟨rfl, rfl, rfl⟩ := trodAll_nil r1
  obtain rfl : args = #[v0, v1] := by cases args; simp_all
  refine (rowCompares (hval 0 41 v0 rfl rfl) h0 (hval 1 41 v1 rfl rfl) h1 (upto_two (hcond _ rfl)) (env9_of_laid hL)).mono fun e W' ⟨he, hbel⟩ => ?_
  subst he
  exact ⟨_, rfl, post_true laidOut' (types_ok _ (by kernel_rfl)) Tryz.underlying4 rfl rfl hW' hbel (fun gs h => by subst h; rfl)⟩
theorem laid_metQueryprintCompares (os : Os) : laidMet Tryz.prog Rows.queryprintComparesUptoRow.laid ((laidWorld os).forCall (fun _ _ => 0) ⟨#[], #[.agg #[.slice none 0 0, .slice none 0 0], .agg #[.slice none 0 0, .slice none 0 0]], []⟩).memory :=
  laidMet_of_run' 8 (by kernel_rfl) (by kernel_rfl)
theorem readsQueryprintCompares (os : Os) {H : Type} (enc : TypeId × Value → H) : ∃ places, DataW.whole enc Tryz.prog ((laidWorld os).forCall (fun _ _ => 0) ⟨#[], #[.agg #[.slice none 0 0, .slice none 0 0], .agg #[.slice none 0 0, .slice none 0 0]], []⟩).memory Tryz.f7.params.toList Rows.queryprintComparesSpec.vars false (#[.agg #[.slice none 0 0, .slice none 0 0], .agg #[.slice none 0 0, .slice none 0 0]] : Array Value).toList 8 = some ([.agg [.nil, .nil], .agg [.nil, .nil]], [], places) :=
  ⟨[], by kernel_rfl⟩
set_option maxRecDepth 100000 in
theorem liftedQueryprintCompares (os : Os) (started : os.Started) (H : Type) (enc : TypeId × Value → H) (F : Stop.Interp) :
    ReturnsInHanded {} Tryz.checked os 7 .any ((Rows.OpenSpec.upto Rows.queryprintComparesSpec).preRow enc Tryz.prog Tryz.f7 Rows.queryprintComparesUptoRow.domain false Rows.queryprintComparesUptoRow.laid) (((Rows.OpenSpec.upto Rows.queryprintComparesSpec).at F).post enc Tryz.prog Tryz.f7 false true false false) := by
  obtain ⟨places, hx⟩ := readsQueryprintCompares os enc
  refine returnsInHanded_of_row (C := Tryz.checked) (s := Rows.OpenSpec.upto Rows.queryprintComparesSpec) own started (by kernel_rfl) Tryz.func7
    (witness_row_at (enc := enc) (C := Tryz.checked) false (laidWorld os) #[.agg #[.slice none 0 0, .slice none 0 0], .agg #[.slice none 0 0, .slice none 0 0]] rfl (by kernel_rfl) (by kernel_rfl) (by kernel_rfl)
      (OpenSpec.preRow_of_cond 8 hx (by kernel_rfl) (fun k hk => by cases hk; kernel_rfl) (by kernel_rfl) (laid_metQueryprintCompares os))) ?_
  intro W base args ds gs before hval hW _ hcond hR hL _ _
  exact contractQueryprintCompares H enc W base args ds gs before hval hW hL hcond hR
theorem and_tQueryprintCompares {a b : Bool} (h1 : a = true) (h2 : b = true) : (a && b) = true := by rw [h1, h2]; rfl
set_option maxRecDepth 100000 in
set_option maxHeartbeats 20000000 in
theorem joinedQueryprintCompares : joinedFacts Tryz.prog 7 Tryz.f7 (Rows.OpenSpec.upto Rows.queryprintComparesSpec).bare Rows.queryprintComparesUptoRow = true := by
  unfold joinedFacts
  repeat' (with_reducible apply and_tQueryprintCompares)
  all_goals as_aux_lemma => kernel_rfl
theorem saidQueryprintCompares : Rows.QueryprintComparesUptoSaid :=
  OpenClaim.holds_of_cond 7 Tryz.f7 rfl rfl rfl rfl rfl rfl rfl ⟨rfl, rfl, rfl, rfl, rfl⟩ rfl rfl rfl rfl rfl (by kernel_rfl) Tryz.func7 joinedQueryprintCompares
    (of_decide_eq_true (by kernel_rfl)) (by unfold Func.isWrapper; first | (rw [if_pos (by decide +kernel)]; kernel_rfl) | (rw [if_neg (by decide +kernel)]; exact ⟨rfl, rfl⟩))
    (fun os started H enc _ F => by rw [OpenClaim.pre_eq_preRow]; exact liftedQueryprintCompares os started H enc F)
theorem plainQueryprintCompares (f : FuncId) (fn : Func) (hf : Tryz.pinned.checked.prog.funcNamed "supergraph/supergraphlaw09.QueryprintCompares" = some f) (hfn : Tryz.pinned.checked.prog.funcs[f]? = some fn) :
    true = Tryz.pinned.checked.prog.looks [] ∧ ∀ (j : Nat) t, fn.params[j]? = some t → Tryz.pinned.checked.prog.wantsStandIn t = false := by
  obtain rfl : f = 7 := Option.some.inj ((show Tryz.prog.funcNamed "supergraph/supergraphlaw09.QueryprintCompares" = some 7 by kernel_rfl).symm.trans hf) |>.symm
  obtain rfl : fn = Tryz.f7 := (Option.some.inj (Tryz.func7.symm.trans hfn)).symm
  refine ⟨by kernel_rfl, fun j t ht => ?_⟩
  rw [Tryz.params7] at ht
  have hm := Array.mem_of_getElem? ht
  simp only [List.mem_toArray, List.mem_cons, List.not_mem_nil, or_false] at hm
  rcases hm with rfl | rfl
  · exact (show Tryz.prog.wantsStandIn 41 = false by kernel_rfl)
  · exact (show Tryz.prog.wantsStandIn 41 = false by kernel_rfl)
end Go.Proofs.YthjiclhfhjdjpaaGreatDoor
