/- Parts of a proof, merged by a program (shake.py). -/
import Derived.Test.YtjhjleanihgopaaDoorRows
import Derived.Test.YtjhjleanihgopaaDoorQ34
set_option linter.unusedVariables false
set_option linter.unusedSimpArgs false
namespace Go.Proofs.YtjhjleanihgopaaDoor
open Go.RowKit
attribute [local irreducible] wpList Calls Code.wp AW AWo OpOk seqK blockK scopeK loopK endK endKB AC ACB absLex absLexG Yld YldG Sub
def zV : D := vD 0 0 [] [] []
set_option maxRecDepth 100000 in
theorem zV_eq : AC EN5 Tryd.prog 22 [.agg (cellsV Tryd.prog 12 39 zV), .agg (cellsV Tryd.prog 12 39 zV)] (.c (.bool true)) :=
  equal_ac 1 zV (fun i hi => absurd hi (Nat.not_lt_zero i)) (by decide)
set_option maxRecDepth 100000 in
theorem zV_eq2 : AC EN5 Tryd.prog 22 [.agg (cellsV Tryd.prog 12 39 zV), .agg zeroCv] (.c (.bool true)) :=
  zV_eq.arg (.cons (.refl _) (.cons (leafV_le 0 0 []) .nil))
set_option maxRecDepth 100000 in
theorem range_eq {α : Type} {n : Nat} {g g' : Nat → α} (h : ∀ i, i < n → g i = g' i) : (List.range n).map g = (List.range n).map g' := List.map_congr_left fun i hi => h i (List.mem_range.1 hi)
set_option maxRecDepth 100000 in
theorem sumN_eq {n : Nat} {g g' : Nat → Nat} (h : ∀ i, i < n → g i = g' i) : sumN g n = sumN g' n := by unfold sumN; rw [range_eq h]
structure Fu (k m : Nat) (d : D) : Prop where
  dp : Dp m d
  every : everyB m d = everyB k d
  wr : wrJ m d = wrJ k d
  strs : strsJ m d = strsJ k d
  size : sizeJ m d = sizeJ k d
  ints : intsJ k d → intsJ m d
  wt : wtJ m d = wtJ k d
set_option maxRecDepth 100000 in
theorem fuel_eq : ∀ (k m : Nat) (d : D), Dp k d → depthJ k d ≤ m → Fu k m d
  | 0, _, _, h, _ => h.elim
  | k + 1, 0, d, h, hm => absurd hm (by show ¬ maxN _ _ + 1 ≤ 0; omega)
  | k + 1, m + 1, d, h, hm => by
    have hm : maxN (fun i => depthJ k (gD (d.f 3).l i)) (d.f 3).l.length + 1 ≤ m + 1 := hm
    have hf : ∀ i, i < (d.f 3).l.length → Fu k m (gD (d.f 3).l i) := fun i hi => fuel_eq k m _ (h i hi) (by
      have := maxN_ge (g := fun i => depthJ k (gD (d.f 3).l i)) hi
      omega)
    refine ⟨fun i hi => (hf i hi).dp, ?_, ?_, ?_, ?_, fun hh => ⟨hh.1, fun i hi => (hf i hi).ints (hh.2 i hi)⟩, ?_⟩
    · show (nodeB d && (List.range (d.f 3).l.length).all fun i => everyB m (gD (d.f 3).l i)) = (nodeB d && (List.range (d.f 3).l.length).all fun i => everyB k (gD (d.f 3).l i))
      rw [all_congr fun i hi => (hf i hi).every]
    · show (if (d.f 0).n ≤ 4 then leafU d else (if (d.f 0).n = 6 then [123] else [91]) ++ catU (fun i => sepU d i ++ wrJ m (gD (d.f 3).l i)) (d.f 3).l.length ++ (if (d.f 0).n = 6 then [125] else [93])) = (if (d.f 0).n ≤ 4 then leafU d else (if (d.f 0).n = 6 then [123] else [91]) ++ catU (fun i => sepU d i ++ wrJ k (gD (d.f 3).l i)) (d.f 3).l.length ++ (if (d.f 0).n = 6 then [125] else [93]))
      rw [catU_congr fun i hi => by rw [(hf i hi).wr]]
    · rw [strs_eq, strs_eq]
      congr 1
      exact range_eq fun i hi => (hf i hi).strs
    · show 1 + sumN (fun i => sizeJ m (gD (d.f 3).l i)) _ = 1 + sumN (fun i => sizeJ k (gD (d.f 3).l i)) _
      rw [sumN_eq fun i hi => (hf i hi).size]
    · rw [wt_eq, wt_eq, sumN_eq fun i hi => (hf i hi).wt]
set_option maxRecDepth 100000 in
theorem right_24 {k : Nat} {d : D} (h : Dp k d) (hr : rightB k d = true) : Fu k 24 d ∧ everyB 24 d = true ∧ sizeJ 24 d ≤ 4096 := by
  unfold rightB at hr
  rw [Bool.and_eq_true, Bool.and_eq_true] at hr
  have h1 := of_decide_eq_true hr.1.1
  have h2 := of_decide_eq_true hr.1.2
  have hf := fuel_eq k 24 d h h2
  exact ⟨hf, by rw [hf.every]; exact hr.2, by rw [hf.size]; exact h1⟩
set_option maxRecDepth 100000 in
theorem size_pref (l : List UInt8) {n : Int} (h0 : 0 ≤ n) (h1 : n < (bs l).size) : ((bs l).extract 0 n.toNat).data.toList = l.take n.toNat ∧ (((bs l).extract 0 n.toNat).size : Int) = n := by
  have e : ((bs l).extract 0 n.toNat).data.toList = l.take n.toNat := by
    rw [ext_mid]
    show ((l.toArray.toList).take n.toNat).drop 0 = _
    simp
  refine ⟨e, ?_⟩
  have e2 : ((bs l).extract 0 n.toNat).size = (l.take n.toNat).length := by rw [← e]; rfl
  rw [e2, List.length_take]
  rw [bs_size] at h1
  omega
set_option maxRecDepth 100000 in
theorem prefLarge (k : Nat) (d : D) (n : Int) (h : Dp k d) (hw : wtJ k d ≤ 1000000000) (hl : 3000 < wtJ k d) : AC EN5 Tryd.prog 9 [.agg (cellsV Tryd.prog 12 39 d), .c (.int .i64 n)] (.c (.bool true)) := by
  have h1 := exam3_ac
  have h2 := large3_ac k d h hw
  rw [decide_eq_true hl] at h2
  refine ac_enter 72 Tryd.func9 rfl rfl rfl rfl ?_
  intro w0 w he
  repeat' (first
    | (apply s_wanted_pick_t rfl rfl rfl
       · conv => lhs; whnf
       · first | rfl | assumption
       · conv => lhs; whnf
       · first | exact bT1 (by assumption) | exact bT2 (by assumption) | rfl)
    | (apply s_wpick_t rfl rfl rfl
       · conv => lhs; whnf
       · first | rfl | assumption
       · conv => lhs; whnf
       · first | exact bT1 (by assumption) | exact bT2 (by assumption) | rfl)
    | (apply s_wanted_pick_f rfl rfl rfl
       · conv => lhs; whnf
       · first | rfl | assumption
       · conv => lhs; whnf
       · first | exact bF1 (by assumption) | exact bF2 (by assumption) | rfl)
    | (apply s_wpick_f rfl rfl rfl
       · conv => lhs; whnf
       · first | rfl | assumption
       · conv => lhs; whnf
       · first | exact bF1 (by assumption) | exact bF2 (by assumption) | rfl)
    | refine aw_seq ?_
    | refine aw_region ?_
    | refine awo_nil ?_
    | refine k_seq ?_
    | refine k_block ?_
    | refine k_scope ?_
    | refine aw_block ?_
    | refine aw_skip ?_
    | refine aw_label ?_
    | refine aw_scope ?_
    | (apply s_pick_t rfl rfl
       · conv => lhs; whnf
       · conv => lhs; whnf
       · first | exact bT1 (by assumption) | exact bT2 (by assumption))
    | (apply s_pick_f rfl rfl
       · conv => lhs; whnf
       · conv => lhs; whnf
       · first | exact bF1 (by assumption) | exact bF2 (by assumption))
    | (apply s_val rfl
       · conv => lhs; whnf
       · conv => lhs; whnf; arg 2; whnf)
    | (apply s_call rfl
       · conv => lhs; whnf
       · conv => lhs; whnf
       · first | exact h1 | exact h2)
    | (apply s_box rfl rfl rfl rfl
       · conv => lhs; whnf; arg 1; whnf
       · rfl)
    | (apply s_alloc rfl rfl rfl rfl
       · conv => lhs; whnf; arg 1; whnf
       · rfl)
    | (apply s_store rfl rfl rfl
       · conv => lhs; whnf
       · conv => lhs; whnf; arg 1; whnf
       · conv => lhs; whnf; arg 1; whnf
       · exact ⟨by kernel_rfl, by kernel_rfl⟩
       · rfl)
    | (apply s_wanted_val rfl
       · conv => lhs; whnf
       · conv => lhs; whnf
       · first | rfl | assumption
       · conv => lhs; whnf; arg 2; whnf)
    | (apply s_wanted_call rfl
       · conv => lhs; whnf
       · conv => lhs; whnf
       · first | rfl | assumption
       · conv => lhs; whnf
       · first | exact h1 | exact h2)
    | (apply s_skipU rfl
       · conv => lhs; whnf
       · conv => lhs; whnf
       · first | rfl | assumption)
    | (apply s_dead rfl
       · conv => lhs; whnf
       · rfl
       · rfl)
    | (apply s_guard_valU rfl
       · conv => lhs; whnf
       · conv => lhs; whnf
       · conv => lhs; whnf; arg 2; whnf)
    | (apply s_guard_callU rfl
       · conv => lhs; whnf
       · conv => lhs; whnf
       · conv => lhs; whnf
       · first | exact h1 | exact h2)
    | (apply s_guard_val rfl
       · conv => lhs; whnf
       · conv => lhs; whnf
       · conv => lhs; whnf; arg 2; whnf)
    | (apply s_guard_call rfl
       · conv => lhs; whnf
       · conv => lhs; whnf
       · conv => lhs; whnf
       · first | exact h1 | exact h2)
    | (apply aw_cond_t
       · conv => lhs; whnf; arg 1; arg 1; whnf)
    | (apply aw_cond_f
       · conv => lhs; whnf; arg 1; arg 1; whnf)
    | (refine aw_cond (by conv => lhs; whnf) ?_ ?_ <;> intro hb)
    | refine aw_ret ?_
    | refine aw_exit ?_
    | refine k_seq_exit ?_
    | refine k_seq_ret ?_
    | refine k_block_ret ?_
    | refine k_block_hit rfl ?_
    | refine k_block_miss rfl ?_
    | refine k_scope_exit ?_
    | refine k_scope_ret ?_
    | refine k_loop_exit ?_
    | refine k_loop_ret ?_
    | refine k_end ?_
    | refine k_end_ret ?_
    | (refine ⟨_, by conv => lhs; whnf; arg 2; whnf, ?_⟩; conv => rhs; whnf)
    | exact trivial
    | intro hg)
  skip
set_option maxRecDepth 100000 in
theorem prefWrong (k : Nat) (d : D) (n : Int) (h : Dp k d) (hw : wtJ k d ≤ 1000000000) (hl : ¬ 3000 < wtJ k d) (hr : rightB k d = false) : AC EN5 Tryd.prog 9 [.agg (cellsV Tryd.prog 12 39 d), .c (.int .i64 n)] (.c (.bool true)) := by
  have h1 := exam3_ac
  have h2 := large3_ac k d h hw
  rw [decide_eq_false hl] at h2
  have h3 := right_ac k d h hw
  rw [hr] at h3
  refine ac_enter 72 Tryd.func9 rfl rfl rfl rfl ?_
  intro w0 w he
  repeat' (first
    | (apply s_wanted_pick_t rfl rfl rfl
       · conv => lhs; whnf
       · first | rfl | assumption
       · conv => lhs; whnf
       · first | exact bT1 (by assumption) | exact bT2 (by assumption) | rfl)
    | (apply s_wpick_t rfl rfl rfl
       · conv => lhs; whnf
       · first | rfl | assumption
       · conv => lhs; whnf
       · first | exact bT1 (by assumption) | exact bT2 (by assumption) | rfl)
    | (apply s_wanted_pick_f rfl rfl rfl
       · conv => lhs; whnf
       · first | rfl | assumption
       · conv => lhs; whnf
       · first | exact bF1 (by assumption) | exact bF2 (by assumption) | rfl)
    | (apply s_wpick_f rfl rfl rfl
       · conv => lhs; whnf
       · first | rfl | assumption
       · conv => lhs; whnf
       · first | exact bF1 (by assumption) | exact bF2 (by assumption) | rfl)
    | refine aw_seq ?_
    | refine aw_region ?_
    | refine awo_nil ?_
    | refine k_seq ?_
    | refine k_block ?_
    | refine k_scope ?_
    | refine aw_block ?_
    | refine aw_skip ?_
    | refine aw_label ?_
    | refine aw_scope ?_
    | (apply s_pick_t rfl rfl
       · conv => lhs; whnf
       · conv => lhs; whnf
       · first | exact bT1 (by assumption) | exact bT2 (by assumption))
    | (apply s_pick_f rfl rfl
       · conv => lhs; whnf
       · conv => lhs; whnf
       · first | exact bF1 (by assumption) | exact bF2 (by assumption))
    | (apply s_val rfl
       · conv => lhs; whnf
       · conv => lhs; whnf; arg 2; whnf)
    | (apply s_call rfl
       · conv => lhs; whnf
       · conv => lhs; whnf
       · first | exact h1 | exact h2 | exact h3)
    | (apply s_box rfl rfl rfl rfl
       · conv => lhs; whnf; arg 1; whnf
       · rfl)
    | (apply s_alloc rfl rfl rfl rfl
       · conv => lhs; whnf; arg 1; whnf
       · rfl)
    | (apply s_store rfl rfl rfl
       · conv => lhs; whnf
       · conv => lhs; whnf; arg 1; whnf
       · conv => lhs; whnf; arg 1; whnf
       · exact ⟨by kernel_rfl, by kernel_rfl⟩
       · rfl)
    | (apply s_wanted_val rfl
       · conv => lhs; whnf
       · conv => lhs; whnf
       · first | rfl | assumption
       · conv => lhs; whnf; arg 2; whnf)
    | (apply s_wanted_call rfl
       · conv => lhs; whnf
       · conv => lhs; whnf
       · first | rfl | assumption
       · conv => lhs; whnf
       · first | exact h1 | exact h2 | exact h3)
    | (apply s_skipU rfl
       · conv => lhs; whnf
       · conv => lhs; whnf
       · first | rfl | assumption)
    | (apply s_dead rfl
       · conv => lhs; whnf
       · rfl
       · rfl)
    | (apply s_guard_valU rfl
       · conv => lhs; whnf
       · conv => lhs; whnf
       · conv => lhs; whnf; arg 2; whnf)
    | (apply s_guard_callU rfl
       · conv => lhs; whnf
       · conv => lhs; whnf
       · conv => lhs; whnf
       · first | exact h1 | exact h2 | exact h3)
    | (apply s_guard_val rfl
       · conv => lhs; whnf
       · conv => lhs; whnf
       · conv => lhs; whnf; arg 2; whnf)
    | (apply s_guard_call rfl
       · conv => lhs; whnf
       · conv => lhs; whnf
       · conv => lhs; whnf
       · first | exact h1 | exact h2 | exact h3)
    | (apply aw_cond_t
       · conv => lhs; whnf; arg 1; arg 1; whnf)
    | (apply aw_cond_f
       · conv => lhs; whnf; arg 1; arg 1; whnf)
    | (refine aw_cond (by conv => lhs; whnf) ?_ ?_ <;> intro hb)
    | refine aw_ret ?_
    | refine aw_exit ?_
    | refine k_seq_exit ?_
    | refine k_seq_ret ?_
    | refine k_block_ret ?_
    | refine k_block_hit rfl ?_
    | refine k_block_miss rfl ?_
    | refine k_scope_exit ?_
    | refine k_scope_ret ?_
    | refine k_loop_exit ?_
    | refine k_loop_ret ?_
    | refine k_end ?_
    | refine k_end_ret ?_
    | (refine ⟨_, by conv => lhs; whnf; arg 2; whnf, ?_⟩; conv => rhs; whnf)
    | exact trivial
    | intro hg)
  skip
def Kd (d : D) : Prop := (d.f 0).n = 3 ∨ (d.f 0).n = 5 ∨ (d.f 0).n = 6
set_option maxHeartbeats 4000000 in
set_option maxRecDepth 100000 in
theorem prefGood (k : Nat) (d : D) (n : Int) (h : Dp k d) (hi : intsJ k d) (hl : ¬ 3000 < wtJ k d) (hr : rightB k d = true) (hk : Kd d) (a : 0 ≤ n) (b : n < (bs (wrJ k d)).size) : AC EN5 Tryd.prog 9 [.agg (cellsV Tryd.prog 12 39 d), .c (.int .i64 n)] (.c (.bool true)) := by
  have h1 := exam3_ac
  have h2 := large3_ac k d h (by omega)
  rw [decide_eq_false hl] at h2
  have h3 := right_ac k d h (by omega)
  rw [hr] at h3
  obtain ⟨hf, hev, hsz⟩ := right_24 h hr
  have hevk : everyB k d = true := by rw [← hf.every]; exact hev
  have h4 := print_ac k d h hi (by omega)
  unfold printV at h4
  rw [if_pos (every_ok hevk)] at h4
  have hlen : (wrJ k d).length ≤ 100000 := by
    have := prP_len h hi
    rw [(prP_ok k d).2 (every_ok hevk)] at this
    omega
  have hz := zV_eq2
  have hsp := (size_pref _ a b).2
  have h5 := parseP_ac ((bs (wrJ k d)).extract 0 n.toNat) (by
      rw [bs_size] at b
      omega)
  rw [(size_pref _ a b).1, parse_pref hev (hf.ints hi) hsz hk (p := (wrJ k d).take n.toNat) (q := (wrJ k d).drop n.toNat) (by rw [List.take_append_drop, hf.wr]) (by
    rw [bs_size] at b
    intro hh
    have := congrArg List.length hh
    rw [List.length_drop] at this
    simp at this
    omega)] at h5
  have h5 : AC EN5 Tryd.prog 20 [.c (.string ((bs (wrJ k d)).extract 0 n.toNat))] (.tup [.agg (cellsV Tryd.prog 12 39 zV), .c (.int .i64 n), .c (.int .i64 3)]) := by
    have e : (((bs (wrJ k d)).extract 0 n.toNat).size : Int) - ((0 : Nat) : Int) = n := by rw [hsp]; simp
    unfold parsedV at h5
    dsimp only at h5
    rw [e] at h5
    exact h5
  unfold Kd at hk
  refine ac_enter 72 Tryd.func9 rfl rfl rfl rfl ?_
  intro w0 w he
  repeat' (first
    | (apply s_wanted_pick_t rfl rfl rfl
       · conv => lhs; whnf
       · first | rfl | assumption
       · conv => lhs; whnf
       · first | exact bT1 (by assumption) | exact bT2 (by assumption) | rfl)
    | (apply s_wpick_t rfl rfl rfl
       · conv => lhs; whnf
       · first | rfl | assumption
       · conv => lhs; whnf
       · first | exact bT1 (by assumption) | exact bT2 (by assumption) | rfl)
    | (apply s_wanted_pick_f rfl rfl rfl
       · conv => lhs; whnf
       · first | rfl | assumption
       · conv => lhs; whnf
       · first | exact bF1 (by assumption) | exact bF2 (by assumption) | rfl)
    | (apply s_wpick_f rfl rfl rfl
       · conv => lhs; whnf
       · first | rfl | assumption
       · conv => lhs; whnf
       · first | exact bF1 (by assumption) | exact bF2 (by assumption) | rfl)
    | refine aw_seq ?_
    | refine aw_region ?_
    | refine awo_nil ?_
    | refine k_seq ?_
    | refine k_block ?_
    | refine k_scope ?_
    | refine aw_block ?_
    | refine aw_skip ?_
    | refine aw_label ?_
    | refine aw_scope ?_
    | (apply s_pick_t rfl rfl
       · conv => lhs; whnf
       · conv => lhs; whnf
       · first | exact bT1 (by assumption) | exact bT2 (by assumption))
    | (apply s_pick_f rfl rfl
       · conv => lhs; whnf
       · conv => lhs; whnf
       · first | exact bF1 (by assumption) | exact bF2 (by assumption))
    | (apply s_val rfl
       · conv => lhs; whnf
       · conv => lhs; whnf; arg 2; whnf)
    | (apply s_call rfl
       · conv => lhs; whnf
       · conv => lhs; whnf
       · first | exact h1 | exact h2 | exact h3 | exact h4 | exact h5 | exact hz)
    | (apply s_box rfl rfl rfl rfl
       · conv => lhs; whnf; arg 1; whnf
       · rfl)
    | (apply s_alloc rfl rfl rfl rfl
       · conv => lhs; whnf; arg 1; whnf
       · rfl)
    | (apply s_store rfl rfl rfl
       · conv => lhs; whnf
       · conv => lhs; whnf; arg 1; whnf
       · conv => lhs; whnf; arg 1; whnf
       · exact ⟨by kernel_rfl, by kernel_rfl⟩
       · rfl)
    | (apply s_wanted_val rfl
       · conv => lhs; whnf
       · conv => lhs; whnf
       · first | rfl | assumption
       · conv => lhs; whnf; arg 2; whnf)
    | (apply s_wanted_call rfl
       · conv => lhs; whnf
       · conv => lhs; whnf
       · first | rfl | assumption
       · conv => lhs; whnf
       · first | exact h1 | exact h2 | exact h3 | exact h4 | exact h5 | exact hz)
    | (apply s_skipU rfl
       · conv => lhs; whnf
       · conv => lhs; whnf
       · first | rfl | assumption)
    | (apply s_dead rfl
       · conv => lhs; whnf
       · rfl
       · rfl)
    | (apply s_guard_valU rfl
       · conv => lhs; whnf
       · conv => lhs; whnf
       · conv => lhs; whnf; arg 2; whnf)
    | (apply s_guard_callU rfl
       · conv => lhs; whnf
       · conv => lhs; whnf
       · conv => lhs; whnf
       · first | exact h1 | exact h2 | exact h3 | exact h4 | exact h5 | exact hz)
    | (apply s_guard_val rfl
       · conv => lhs; whnf
       · conv => lhs; whnf
       · conv => lhs; whnf; arg 2; whnf)
    | (apply s_guard_call rfl
       · conv => lhs; whnf
       · conv => lhs; whnf
       · conv => lhs; whnf
       · first | exact h1 | exact h2 | exact h3 | exact h4 | exact h5 | exact hz)
    | (apply aw_cond_t
       · conv => lhs; whnf; arg 1; arg 1; whnf)
    | (apply aw_cond_f
       · conv => lhs; whnf; arg 1; arg 1; whnf)
    | (refine aw_cond (by conv => lhs; whnf) ?_ ?_ <;> intro hb)
    | refine aw_ret ?_
    | refine aw_exit ?_
    | refine k_seq_exit ?_
    | refine k_seq_ret ?_
    | refine k_block_ret ?_
    | refine k_block_hit rfl ?_
    | refine k_block_miss rfl ?_
    | refine k_scope_exit ?_
    | refine k_scope_ret ?_
    | refine k_loop_exit ?_
    | refine k_loop_ret ?_
    | refine k_end ?_
    | refine k_end_ret ?_
    | (refine ⟨_, by conv => lhs; whnf; arg 2; whnf, ?_⟩; conv => rhs; whnf)
    | exact trivial
    | intro hg)
  all_goals try (exact (show Tryd.prog.underlying 9 = some TypeDesc.string by kernel_rfl))
  all_goals try (exact ⟨(show Tryd.prog.underlying 9 = some TypeDesc.string by kernel_rfl), a, by omega⟩)
  all_goals try (show V.c _ = V.c _; rfl)
  all_goals
    exfalso
    clear h1 h2 h3 h4 h5 hz he
    simp at *
    try omega
set_option maxRecDepth 100000 in
theorem prefElse (k : Nat) (d : D) (n : Int) (h : Dp k d) (hi : intsJ k d) (hl : ¬ 3000 < wtJ k d) (hr : rightB k d = true) (hk : ¬ (Kd d ∧ 0 ≤ n ∧ n < (bs (wrJ k d)).size)) : AC EN5 Tryd.prog 9 [.agg (cellsV Tryd.prog 12 39 d), .c (.int .i64 n)] (.c (.bool true)) := by
  have h1 := exam3_ac
  have h2 := large3_ac k d h (by omega)
  rw [decide_eq_false hl] at h2
  have h3 := right_ac k d h (by omega)
  rw [hr] at h3
  obtain ⟨hf, hev, hsz⟩ := right_24 h hr
  have hevk : everyB k d = true := by rw [← hf.every]; exact hev
  have h4 := print_ac k d h hi (by omega)
  unfold printV at h4
  rw [if_pos (every_ok hevk)] at h4
  have hz := zV_eq2
  refine ac_enter 72 Tryd.func9 rfl rfl rfl rfl ?_
  intro w0 w he
  repeat' (first
    | (apply s_wanted_pick_t rfl rfl rfl
       · conv => lhs; whnf
       · first | rfl | assumption
       · conv => lhs; whnf
       · first | exact bT1 (by assumption) | exact bT2 (by assumption) | rfl)
    | (apply s_wpick_t rfl rfl rfl
       · conv => lhs; whnf
       · first | rfl | assumption
       · conv => lhs; whnf
       · first | exact bT1 (by assumption) | exact bT2 (by assumption) | rfl)
    | (apply s_wanted_pick_f rfl rfl rfl
       · conv => lhs; whnf
       · first | rfl | assumption
       · conv => lhs; whnf
       · first | exact bF1 (by assumption) | exact bF2 (by assumption) | rfl)
    | (apply s_wpick_f rfl rfl rfl
       · conv => lhs; whnf
       · first | rfl | assumption
       · conv => lhs; whnf
       · first | exact bF1 (by assumption) | exact bF2 (by assumption) | rfl)
    | refine aw_seq ?_
    | refine aw_region ?_
    | refine awo_nil ?_
    | refine k_seq ?_
    | refine k_block ?_
    | refine k_scope ?_
    | refine aw_block ?_
    | refine aw_skip ?_
    | refine aw_label ?_
    | refine aw_scope ?_
    | (apply s_pick_t rfl rfl
       · conv => lhs; whnf
       · conv => lhs; whnf
       · first | exact bT1 (by assumption) | exact bT2 (by assumption))
    | (apply s_pick_f rfl rfl
       · conv => lhs; whnf
       · conv => lhs; whnf
       · first | exact bF1 (by assumption) | exact bF2 (by assumption))
    | (apply s_val rfl
       · conv => lhs; whnf
       · conv => lhs; whnf; arg 2; whnf)
    | (apply s_call rfl
       · conv => lhs; whnf
       · conv => lhs; whnf
       · first | exact h1 | exact h2 | exact h3 | exact h4 | exact hz)
    | (apply s_box rfl rfl rfl rfl
       · conv => lhs; whnf; arg 1; whnf
       · rfl)
    | (apply s_alloc rfl rfl rfl rfl
       · conv => lhs; whnf; arg 1; whnf
       · rfl)
    | (apply s_store rfl rfl rfl
       · conv => lhs; whnf
       · conv => lhs; whnf; arg 1; whnf
       · conv => lhs; whnf; arg 1; whnf
       · exact ⟨by kernel_rfl, by kernel_rfl⟩
       · rfl)
    | (apply s_wanted_val rfl
       · conv => lhs; whnf
       · conv => lhs; whnf
       · first | rfl | assumption
       · conv => lhs; whnf; arg 2; whnf)
    | (apply s_wanted_call rfl
       · conv => lhs; whnf
       · conv => lhs; whnf
       · first | rfl | assumption
       · conv => lhs; whnf
       · first | exact h1 | exact h2 | exact h3 | exact h4 | exact hz)
    | (apply s_skipU rfl
       · conv => lhs; whnf
       · conv => lhs; whnf
       · first | rfl | assumption)
    | (apply s_dead rfl
       · conv => lhs; whnf
       · rfl
       · rfl)
    | (apply s_guard_valU rfl
       · conv => lhs; whnf
       · conv => lhs; whnf
       · conv => lhs; whnf; arg 2; whnf)
    | (apply s_guard_callU rfl
       · conv => lhs; whnf
       · conv => lhs; whnf
       · conv => lhs; whnf
       · first | exact h1 | exact h2 | exact h3 | exact h4 | exact hz)
    | (apply s_guard_val rfl
       · conv => lhs; whnf
       · conv => lhs; whnf
       · conv => lhs; whnf; arg 2; whnf)
    | (apply s_guard_call rfl
       · conv => lhs; whnf
       · conv => lhs; whnf
       · conv => lhs; whnf
       · first | exact h1 | exact h2 | exact h3 | exact h4 | exact hz)
    | (apply aw_cond_t
       · conv => lhs; whnf; arg 1; arg 1; whnf)
    | (apply aw_cond_f
       · conv => lhs; whnf; arg 1; arg 1; whnf)
    | (refine aw_cond (by conv => lhs; whnf) ?_ ?_ <;> intro hb)
    | refine aw_ret ?_
    | refine aw_exit ?_
    | refine k_seq_exit ?_
    | refine k_seq_ret ?_
    | refine k_block_ret ?_
    | refine k_block_hit rfl ?_
    | refine k_block_miss rfl ?_
    | refine k_scope_exit ?_
    | refine k_scope_ret ?_
    | refine k_loop_exit ?_
    | refine k_loop_ret ?_
    | refine k_end ?_
    | refine k_end_ret ?_
    | (refine ⟨_, by conv => lhs; whnf; arg 2; whnf, ?_⟩; conv => rhs; whnf)
    | exact trivial
    | intro hg)
  all_goals try (exact (show Tryd.prog.underlying 9 = some TypeDesc.string by kernel_rfl))
  all_goals
    exfalso
    apply hk
    clear h1 h2 h3 h4 hz he hk hr hf hev hevk
    unfold Kd
    simp at *
    omega
set_option maxRecDepth 100000 in
theorem law3Prefixes (k : Nat) (d : D) (n : Int) (h : Dp k d) (hi : intsJ k d) (hw : wtJ k d ≤ 1000000000) : AC EN5 Tryd.prog 9 [.agg (cellsV Tryd.prog 12 39 d), .c (.int .i64 n)] (.c (.bool true)) := by
  by_cases hl : 3000 < wtJ k d
  · exact prefLarge k d n h hw hl
  cases hr : rightB k d
  · exact prefWrong k d n h hw hl hr
  · by_cases hk : Kd d ∧ 0 ≤ n ∧ n < (bs (wrJ k d)).size
    · exact prefGood k d n h hi hl hr hk.1 hk.2.1 hk.2.2
    · exact prefElse k d n h hi hl hr hk
end Go.Proofs.YtjhjleanihgopaaDoor
namespace Go.Proofs.YtjhjleanihgopaaDoor
open Go.RowKit
attribute [local irreducible] wpList Calls Code.wp
mutual
/-- how many values and letters a datum holds -/
def bulkD : D → Nat
  | .int _ => 1
  | .bool _ => 1
  | .str s => s.size + 1
  | .list l => bulkL l + 1
  | .obj l => bulkL l + 1
def bulkL : List D → Nat
  | [] => 0
  | d :: r => bulkD d + bulkL r
 end
/-- the datum has a type's shape -/
def Fits (P : Program) : Nat → TypeId → D → Prop
  | 0, _, _ => False
  | k + 1, t, d =>
    match P.underlying t with
    | some .bool => ∃ b, d = .bool b
    | some (.int _) => ∃ n, d = .int n
    | some .string => ∃ s, d = .str s
    | some (.slice e) => ∃ l, d = .list l ∧ ∀ i, i < l.length → Fits P k e (gD l i)
    | some (.struct fs) => ∃ l, d = .obj l ∧ l.length = fs.size ∧ ∀ j f, fs[j]? = some f → Fits P k f.type (gD l j)
    | _ => True
theorem Fits.up {P : Program} : ∀ {k : Nat} {t : TypeId} {d : D}, Fits P k t d → Fits P (k + 1) t d
  | 0, _, _, h => h.elim
  | k + 1, t, d, h => by
    unfold Fits at h ⊢
    split at h
    · exact h
    · exact h
    · exact h
    · obtain ⟨l, h1, h2⟩ := h
      exact ⟨l, h1, fun i hi => Fits.up (h2 i hi)⟩
    · obtain ⟨l, h1, h2, h3⟩ := h
      exact ⟨l, h1, h2, fun j f hf => Fits.up (h3 j f hf)⟩
    · trivial
theorem bulk_pos {H : Type} (d : DataW H) : 1 ≤ Rows.uptoBulk d := by
  cases d with
  | lit x => cases x <;> simp [Rows.uptoBulk]
  | _ => simp [Rows.uptoBulk]
theorem bulk_lists {H : Type} : ∀ (l : List D) (xs : List (DataW H × List MemPlace)), l.length = xs.length → (∀ i (h : i < xs.length), bulkD (gD l i) ≤ Rows.uptoBulk (xs[i]'h).1) → bulkL l ≤ Rows.uptoBulkAll (xs.map (·.1))
  | [], _, _, _ => by simp [bulkL]
  | d :: r, [], h, _ => by simp at h
  | d :: r, x :: xs, h, hb => by
    have h0 := hb 0 (by simp)
    have h1 := bulk_lists r xs (by simpa using h) fun i hi => by
      have := hb (i + 1) (by simpa using hi)
      simpa [gD] using this
    simp only [List.map_cons, Rows.uptoBulkAll, bulkL]
    have e : gD (d :: r) 0 = d := rfl
    rw [e] at h0
    have e2 : (((x :: xs)[0]'(by simp)).1) = x.1 := rfl
    rw [e2] at h0
    omega
theorem rep_of_trod2 {P : Program} {w : World} {H : Type} {enc : TypeId × Value → H} {held : Bool} {sp : Nat → Bool} : ∀ {k : Nat} {t : TypeId} {cs : List Value} {x : DataW H × List MemPlace},
    DataW.trod enc P w 0 sp held k t cs = some x → ∃ d, Rep P w (fun b => b < w.heap.size) k t cs d ∧ Fits P k t d ∧ bulkD d ≤ Rows.uptoBulk x.1
  | 0, t, cs, x, h => by simp [DataW.trod] at h
  | k + 1, t, cs, x, h => by
    have hpos := bulk_pos x.1
    cases hu : P.underlying t with
    | none => exact ⟨default, by unfold Rep; rw [hu]; trivial, by unfold Fits; rw [hu]; trivial, by show bulkD (.obj []) ≤ _; simpa [bulkD, bulkL] using hpos⟩
    | some ty =>
      cases ty
      case bool =>
        obtain ⟨b, rfl, _⟩ := DataW.trod_bool hu h
        exact ⟨.bool b, .mk_bool hu, by unfold Fits; rw [hu]; exact ⟨b, rfl⟩, by simpa [bulkD] using hpos⟩
      case int q =>
        obtain ⟨n, rfl, _, hw⟩ := DataW.trod_int hu h
        exact ⟨.int n, .mk_int hu hw, by unfold Fits; rw [hu]; exact ⟨n, rfl⟩, by simpa [bulkD] using hpos⟩
      case string =>
        obtain ⟨s, rfl, hx, hs⟩ := DataW.trod_string hu h
        refine ⟨.str s, .mk_str hu hs, by unfold Fits; rw [hu]; exact ⟨s, rfl⟩, ?_⟩
        rw [hx]
        simp [bulkD, Rows.uptoBulk]
      case slice e =>
        rcases DataW.trod_slice hu h with ⟨rfl, _⟩ | ⟨a, len, cap, elems, rest, n, hk, rfl, hx, _, hle, hcm, hlen, hel, _⟩
        · exact ⟨.list [], .mk_slice hu rfl (by simp) (by simp [maxLen]) (fun _ => rfl) (Sl.nil _ _ _), by unfold Fits; rw [hu]; exact ⟨[], rfl, fun i hi => by simp at hi⟩, by simpa [bulkD, bulkL] using hpos⟩
        · obtain rfl : n = k := by omega
          have hx2 : ∀ i, i < len → ∃ d, (∃ ys, w.cells? 0 (a.add (i * P.cellsOf e)) (P.cellsOf e) = some ys ∧ Rep P w (fun b => b < w.heap.size) n e ys d) ∧ Fits P n e d ∧ ∀ h : i < elems.length, bulkD d ≤ Rows.uptoBulk (elems[i]'h).1 := fun i hi => by
            have h1 := hel i hi
            rw [List.getElem?_eq_getElem (by omega)] at h1
            obtain ⟨ys, y1, y2⟩ := Option.bind_eq_some_iff.1 h1
            obtain ⟨d, hd, hd2, hd3⟩ := rep_of_trod2 y2
            exact ⟨d, ⟨ys, y1, hd⟩, hd2, fun _ => hd3⟩
          obtain ⟨l, hll, hl⟩ := choose_list hx2
          refine ⟨.list l, .mk_slice hu hll.symm (by omega) hcm (fun h => by cases h) ?_, by unfold Fits; rw [hu]; exact ⟨l, rfl, fun i hi => (hl i (by omega)).2.1⟩, ?_⟩
          · intro h0 hc
            obtain ⟨b, off, spot⟩ := a
            obtain ⟨⟨ys, y1, _⟩, _⟩ := hl 0 (by omega)
            obtain ⟨_, y3, y4⟩ := World.cells?_some y1
            have y5 := y4 0 hc
            rw [List.getElem?_eq_getElem (by omega)] at y5
            have hspot : spot = none := by simpa [Addr.add] using World.cell?_spot y5
            subst hspot
            have hbl : b < w.heap.size := by simpa [Addr.add] using block_lt_of_cell y5
            refine ⟨b, off, rfl, hbl, fun i hi => ?_⟩
            obtain ⟨⟨ys, y1, y2⟩, _⟩ := hl i (by omega)
            obtain ⟨_, y3, y4⟩ := World.cells?_some y1
            refine ⟨ys, y3, fun j u hu => ?_, y2⟩
            have hj : j < P.cellsOf e := by have := (List.getElem?_eq_some_iff.1 hu).1; omega
            have := y4 j hj
            rw [Go.WideShapes.add_plain, Go.WideShapes.add_plain, hu] at this
            exact this
          · have := bulk_lists l elems (by omega) fun i hi => (hl i (by omega)).2.2 hi
            rw [hx]
            simp only [bulkD, Rows.uptoBulk]
            omega
      case struct fs =>
        obtain ⟨xs, n, hk, hx, hcs, hxs, hf⟩ := DataW.trod_struct hu h
        obtain rfl : n = k := by omega
        have hx2 : ∀ j, j < fs.size → ∃ d, (∀ f, fs[j]? = some f → Rep P w (fun b => b < w.heap.size) n f.type ((cs.drop f.offset).take (P.cellsOf f.type)) d ∧ Fits P n f.type d) ∧ ∀ h : j < xs.length, bulkD d ≤ Rows.uptoBulk (xs[j]'h).1 := fun j hj => by
          have h1 := hf j fs[j] (Array.getElem?_eq_getElem hj)
          rw [List.getElem?_eq_getElem (by omega)] at h1
          obtain ⟨d, hd, hd2, hd3⟩ := rep_of_trod2 h1
          refine ⟨d, fun f hf => ?_, fun _ => hd3⟩
          rw [Array.getElem?_eq_getElem hj] at hf
          cases hf; exact ⟨hd, hd2⟩
        obtain ⟨l, hll, hl⟩ := choose_list hx2
        refine ⟨.obj l, .mk_struct hu hcs fun j f hjf => ((hl j (Array.getElem?_eq_some_iff.1 hjf).1).1 f hjf).1, by unfold Fits; rw [hu]; exact ⟨l, rfl, hll, fun j f hjf => ((hl j (Array.getElem?_eq_some_iff.1 hjf).1).1 f hjf).2⟩, ?_⟩
        have := bulk_lists l xs (by omega) fun i hi => (hl i (by omega)).2 hi
        rw [hx]
        simp only [bulkD, Rows.uptoBulk]
        omega
      all_goals exact ⟨default, by unfold Rep; rw [hu]; trivial, by unfold Fits; rw [hu]; trivial, by show bulkD (.obj []) ≤ _; simpa [bulkD, bulkL] using hpos⟩
end Go.Proofs.YtjhjleanihgopaaDoor
namespace Go.Proofs.YtjhjleanihgopaaDoor
open Go.ChangeShapes Go.WideShapes Go.ChangeAt Go.RowKit
attribute [local irreducible] wpList Calls Code.wp
set_option maxRecDepth 100000 in
theorem bulk_list (l : List D) : bulkL l = (l.map bulkD).sum := by
  induction l with
  | nil => simp [bulkL]
  | cons d r ih => simp [bulkL, ih]
set_option maxRecDepth 100000 in
/-- a value's shape: how deep it is, how much it holds -/
theorem val_in : ∀ {k : Nat} {x : D}, Fits Tryd.prog k 39 x → Dp k x ∧ wtJ k x ≤ bulkD x
  | 0, _, h => h.elim
  | k + 1, x, h => by
    unfold Fits at h
    rw [Tryd.underlying39] at h
    obtain ⟨l, rfl, hl, hf⟩ := h
    have h2 : Fits Tryd.prog k 9 (gD l 2) := hf 2 _ rfl
    have h3 : Fits Tryd.prog k 36 (gD l 3) := hf 3 _ rfl
    have h4 : Fits Tryd.prog k 37 (gD l 4) := hf 4 _ rfl
    have hl5 : l.length = 5 := hl
    cases k with
    | zero => exact h3.elim
    | succ k =>
      unfold Fits at h2 h3 h4
      obtain ⟨s, e2⟩ : ∃ s, gD l 2 = .str s := by rw [Tryd.underlying9] at h2; exact h2
      obtain ⟨l3, e3, h5⟩ : ∃ l3, gD l 3 = .list l3 ∧ ∀ i, i < l3.length → Fits Tryd.prog k 39 (gD l3 i) := by rw [Tryd.underlying36] at h3; exact h3
      obtain ⟨l4, e4, h6⟩ : ∃ l4, gD l 4 = .list l4 ∧ ∀ i, i < l4.length → Fits Tryd.prog k 9 (gD l4 i) := by rw [Tryd.underlying37] at h4; exact h4
      have i3 : ((D.obj l).f 3).l = l3 := by show (gD l 3).l = l3; rw [e3]; rfl
      have i4 : ((D.obj l).f 4).l = l4 := by show (gD l 4).l = l4; rw [e4]; rfl
      have i2 : ((D.obj l).f 2).s = s := by show (gD l 2).s = s; rw [e2]; rfl
      have hit : ∀ i, i < l3.length → Dp (k + 1) (gD l3 i) ∧ wtJ (k + 1) (gD l3 i) ≤ bulkD (gD l3 i) := fun i hi => val_in (h5 i hi).up
      refine ⟨fun i hi => ?_, ?_⟩
      · rw [i3] at hi ⊢; exact (hit i hi).1
      · rw [wt_eq, i2, i3, i4, sum_gD (fun x => wtJ (k + 1) x)]
        have a1 : (l3.map fun x => wtJ (k + 1) x).sum ≤ (l3.map bulkD).sum := map_le fun i hi => (hit i hi).2
        have a2 : kwD l4 ≤ (l4.map bulkD).sum := map_le fun i hi => by
          have h7 := h6 i hi
          cases k with
          | zero => exact h7.elim
          | succ k =>
            unfold Fits at h7
            obtain ⟨u, e⟩ : ∃ u, gD l4 i = .str u := by rw [Tryd.underlying9] at h7; exact h7
            rw [e]
            show 1 + u.size ≤ bulkD (.str u)
            simp only [bulkD]; omega
        have b : bulkD (.obj l) = sumN (fun i => bulkD (gD l i)) 5 + 1 := by
          rw [← hl5, sum_gD]
          simp only [bulkD, bulk_list]
        rw [b]
        simp only [sumN_succ]
        rw [e2, e3, e4]
        simp only [bulkD, bulk_list]
        omega
set_option maxRecDepth 100000 in
theorem val_ints {w : World} : ∀ {k : Nat} {cs : Array Value} {d : D}, Dp k d → Rv w 39 cs d → intsJ k d
  | 0, _, _, h, _ => h.elim
  | k + 1, cs, d, h, hr => by
    obtain ⟨A3, c3, A4, c4, e, r0, r1, r2, ⟨s3a, s3b, s3c, s3⟩, -⟩ := in39 hr
    refine ⟨r1, fun i hi => ?_⟩
    obtain ⟨b, off, -, -, hat⟩ := at39 s3 (by omega)
    obtain ⟨_, _, _, _, -, -, -, -, -, -, -, -, -, -, hv⟩ := hat i hi
    exact val_ints (h i hi) hv
set_option maxRecDepth 100000 in
/-- what an argument holds -/
theorem arg_in {H : Type} {enc : TypeId × Value → H} {W : World} {v : Value} {base : Nat} {dw : DataW H} {ps : List MemPlace} {t : TypeId} {fs : Array Field} (ht : Tryd.prog.underlying t = some (.struct fs)) (hv : Value.okWide Tryd.prog W .any base t v)
    (hd : DataW.Trod enc Tryd.prog W 0 (fun _ => true) true t v dw ps) :
    ∃ (k : Nat) (cs : Array Value) (d : D), v = .agg cs ∧ Rep Tryd.prog W (fun b => b < W.heap.size) k t cs.toList d ∧ Fits Tryd.prog k t d ∧ bulkD d ≤ Rows.uptoBulk dw := by
  obtain ⟨cs, rfl, _⟩ := okWide_struct ht hv
  obtain ⟨k, hk⟩ := hd
  obtain ⟨d, h1, h2, h3⟩ := rep_of_trod2 hk
  exact ⟨k, cs, d, rfl, by simpa [Value.cells] using h1, h2, h3⟩
set_option maxRecDepth 100000 in
theorem rep_len {P : Program} {w : World} {I : Nat → Prop} {k : Nat} {t : TypeId} {cs : List Value} {d : D} {fs : Array Field} (ht : P.underlying t = some (.struct fs)) (h : Rep P w I k t cs d) : cs.length = P.cellsOf t := by
  cases k with
  | zero => exact h.elim
  | succ k => unfold Rep at h; rw [ht] at h; exact h.1
/-- the reading at the call -/
def sg0 (W : World) : Sg := ⟨fun b o => (W.cell? ⟨b, o, none⟩).isSome, fun _ => none, fun _ => none, fun _ => (undef, 0)⟩
set_option maxRecDepth 100000 in
theorem cells0 {W : World} {k : Nat} {t : TypeId} {cs : Array Value} {d : D} {fs : Array Field} (ht : Tryd.prog.underlying t = some (.struct fs)) (hl : layB Tryd.prog 12 t = true) (hr : Rep Tryd.prog W (fun b => b < W.heap.size) k t cs.toList d) : rel Tryd.prog (sg0 W) W (.agg (cellsV Tryd.prog 12 t d)) (.agg cs) := by
  rw [rel]
  exact ⟨cs, rfl, cells_rel (s := sg0 W) 12 k t cs.toList d (RepF.of_rep hr fun b o _ h => h) (rep_len ht hr) hl⟩
set_option maxRecDepth 100000 in
theorem calls_of_ac5 {f : FuncId} {args : List V} {W : World} {us : Array Value} (h : AC EN5 Tryd.prog f args (.c (.bool true))) (hr : relL Tryd.prog (sg0 W) W args us.toList) (he : Env W) : Calls Tryd.prog f us W fun e W' => e = .returned (.bool true) ∧ Below W.heap.size W W' := by
  refine (h (sg0 W) W us hr (fun b o h => h) he).mono ?_
  rintro e W' ⟨v, F', rfl, hfr, -, -, -, hv⟩
  rw [rel] at hv
  obtain ⟨rfl, -⟩ := hv
  exact ⟨rfl, hfr.below⟩
set_option maxRecDepth 100000 in
theorem relL2 {P : Program} {s : Sg} {w : World} {v v2 : V} {u u2 : Value} (h : rel P s w v u) (h2 : rel P s w v2 u2) : relL P s w [v, v2] (#[u, u2] : Array Value).toList := by
  show relL P s w [v, v2] [u, u2]
  rw [relL, relL]; exact ⟨h, h2, by simp [relL]⟩
set_option maxRecDepth 100000 in
theorem upto_one {H : Type} {d : DataW H} {gs : List (DataW H)} (h : Rows.uptoSmall H (d :: gs) = true) : Rows.uptoBulk d ≤ 1048576 := by
  have h1 : Rows.uptoBulkAll (d :: gs) ≤ 1048576 := of_decide_eq_true h
  rw [Rows.uptoBulkAll] at h1
  omega
section
variable {H : Type} {enc : TypeId × Value → H} {W : World} {v v2 : Value} {base : Nat} {dw dw2 : DataW H} {ps ps2 : List MemPlace}
set_option maxRecDepth 100000 in
/-- what a value argument holds -/
theorem val_arg (hv : Value.okWide Tryd.prog W .any base 39 v) (hd : DataW.Trod enc Tryd.prog W 0 (fun _ => true) true 39 v dw ps) (hb : Rows.uptoBulk dw ≤ 1048576) :
    ∃ k d, Dp k d ∧ intsJ k d ∧ wtJ k d ≤ 1048576 ∧ rel Tryd.prog (sg0 W) W (.agg (cellsV Tryd.prog 12 39 d)) v := by
  obtain ⟨k, cs, d, rfl, hr, hf, hbk⟩ := arg_in Tryd.underlying39 hv hd
  obtain ⟨h1, h2⟩ := val_in hf
  exact ⟨k, d, h1, val_ints h1 (cs := cs) ⟨k, hr⟩, by omega, cells0 Tryd.underlying39 (by kernel_rfl) hr⟩
set_option maxRecDepth 100000 in
theorem row3Prefixes (n : Int) (hn : -9223372036854775808 ≤ n ∧ n ≤ 9223372036854775807) (hv : Value.okWide Tryd.prog W .any base 39 v) (hd : DataW.Trod enc Tryd.prog W 0 (fun _ => true) true 39 v dw ps) (hb : Rows.uptoBulk dw ≤ 1048576) (he : Env W) :
    Calls Tryd.prog 9 #[v, .int .i64 n] W fun e W' => e = .returned (.bool true) ∧ Below W.heap.size W W' := by
  obtain ⟨k, d, h1, h2, h3, h4⟩ := val_arg hv hd hb
  exact calls_of_ac5 (law3Prefixes k d n h1 h2 (by omega)) (relL2 h4 (rel_i64 hn)) he
end
end Go.Proofs.YtjhjleanihgopaaDoor
