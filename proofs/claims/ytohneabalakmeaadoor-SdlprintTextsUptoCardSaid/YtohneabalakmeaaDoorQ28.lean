/- Parts of a proof, merged by a program (shake.py). -/
import Derived.Test.YtohneabalakmeaaDoorProg
import Derived.KernelRfl
import Derived.Test.YtohneabalakmeaaDoorQ27
namespace Go.Proofs.YtohneabalakmeaaDoor
open Go.RowKit
attribute [local irreducible] wpList Calls Code.wp AW AWo OpOk seqK blockK scopeK loopK endK AC absLex Yld Sub
set_option maxRecDepth 100000 in
theorem elemInt : elemOk Tryd.prog 60 = some (3, 8) := by kernel_rfl
set_option maxRecDepth 100000 in
theorem nonNull_ac (x : D) : AC EN Tryd.prog 178 [.agg (cellsV Tryd.prog 12 62 x)] (.c (.bool (decide (0 < (x.f 1).l.length) && ((gD (x.f 1).l 0).n == 1)))) := by
  refine ac_enter 14 Tryd.func178 rfl rfl rfl rfl ?_
  intro s w he
  repeat' (first
    | refine aw_seq ?_
    | refine aw_region ?_
    | refine awo_nil ?_
    | refine k_seq ?_
    | refine k_block ?_
    | refine k_scope ?_
    | refine aw_block ?_
    | refine aw_skip ?_
    | refine aw_label ?_
    | refine aw_scope ?_
    | (apply s_pick_t rfl rfl
       · conv => lhs; whnf
       · conv => lhs; whnf
       · first | exact bT1 (by assumption) | exact bT2 (by assumption))
    | (apply s_pick_f rfl rfl
       · conv => lhs; whnf
       · conv => lhs; whnf
       · first | exact bF1 (by assumption) | exact bF2 (by assumption))
    | (apply s_val rfl
       · conv => lhs; whnf
       · conv => lhs; whnf; arg 2; whnf)
    | (apply s_box rfl rfl rfl rfl
       · conv => lhs; whnf; arg 1; whnf
       · rfl)
    | (apply s_wanted_val rfl
       · conv => lhs; whnf
       · conv => lhs; whnf
       · first | rfl | assumption
       · conv => lhs; whnf; arg 2; whnf)
    | (apply s_wanted_call rfl
       · conv => lhs; whnf
       · conv => lhs; whnf
       · first | rfl | assumption
       · conv => lhs; whnf
       · first | fail)
    | (apply s_skip rfl
       · conv => lhs; whnf
       · conv => lhs; whnf
       · first | rfl | assumption)
    | (apply s_guard_val rfl
       · conv => lhs; whnf
       · conv => lhs; whnf
       · conv => lhs; whnf; arg 2; whnf)
    | (apply s_guard_call rfl
       · conv => lhs; whnf
       · conv => lhs; whnf
       · conv => lhs; whnf
       · first | fail)
    | (apply aw_cond_t
       · conv => lhs; whnf; arg 1; arg 1; whnf)
    | (apply aw_cond_f
       · conv => lhs; whnf; arg 1; arg 1; whnf)
    | (refine aw_cond (by conv => lhs; whnf) ?_ ?_ <;> intro hb)
    | refine aw_ret ?_
    | refine aw_exit ?_
    | refine k_seq_exit ?_
    | refine k_seq_ret ?_
    | refine k_block_ret ?_
    | refine k_block_hit rfl ?_
    | refine k_block_miss rfl ?_
    | refine k_scope_exit ?_
    | refine k_scope_ret ?_
    | refine k_loop_exit ?_
    | refine k_loop_ret ?_
    | refine k_end ?_
    | refine k_end_ret ?_
    | (refine ⟨_, by conv => lhs; whnf; arg 2; whnf, ?_⟩; conv => rhs; whnf)
    | exact trivial
    | intro hg)
  · have hg := bT1 hg
    simp at hg
    simp [hg]
  · have hg := bT1 hg
    simpa using hg
  · have hg := bF1 hg
    simp at hg
    simp [hg]
set_option maxRecDepth 100000 in
theorem cut_ac (x : D) (h0 : 0 < (x.f 1).l.length) (h1 : (x.f 1).l.length ≤ 2000000) : AC EN Tryd.prog 179 [.agg (cellsV Tryd.prog 12 62 x)] (.agg (cellsV Tryd.prog 12 62 (.obj [x.f 0, .list ((x.f 1).l.drop 1)]))) := by
  refine ac_enter 11 Tryd.func179 rfl rfl rfl rfl ?_
  intro s w he
  repeat' (first
    | refine aw_seq ?_
    | refine aw_region ?_
    | refine awo_nil ?_
    | refine k_seq ?_
    | refine k_block ?_
    | refine k_scope ?_
    | refine aw_block ?_
    | refine aw_skip ?_
    | refine aw_label ?_
    | refine aw_scope ?_
    | (apply s_val rfl
       · conv => lhs; whnf
       · conv => lhs; whnf; arg 2; whnf)
    | (apply s_box rfl rfl rfl rfl
       · conv => lhs; whnf; arg 1; whnf
       · rfl)
    | (apply s_alloc rfl rfl rfl rfl
       · conv => lhs; whnf; arg 1; whnf
       · rfl)
    | (apply s_store rfl rfl rfl
       · conv => lhs; whnf
       · conv => lhs; whnf; arg 1; whnf
       · conv => lhs; whnf; arg 1; whnf
       · exact ⟨by kernel_rfl, by kernel_rfl⟩
       · rfl)
    | (apply s_app rfl rfl
       · conv => lhs; whnf
       · first | exact elemInt | (conv => lhs; whnf; arg 1; whnf)
       · first | exact fun _ => rfl | (intro _; kernel_rfl)
       · conv => lhs; whnf
       · conv => lhs; whnf; arg 1; whnf
       · conv => lhs; whnf)
    | (apply s_app_nil rfl rfl rfl rfl
       · first | exact elemInt | (conv => lhs; whnf; arg 1; whnf)
       · first | exact fun _ => rfl | (intro _; kernel_rfl)
       · conv => lhs; whnf
       · conv => lhs; whnf)
    | (apply s_lit0 rfl rfl
       · conv => lhs; whnf
       · first | exact elemInt | (conv => lhs; whnf; arg 1; whnf))
    | (apply s_lit1 rfl rfl
       · conv => lhs; whnf
       · first | exact elemInt | (conv => lhs; whnf; arg 1; whnf)
       · conv => lhs; whnf; arg 1; whnf
       · rfl
       · rfl)
    | (apply s_onlit rfl rfl
       · conv => lhs; whnf
       · first | exact elemInt | (conv => lhs; whnf; arg 1; whnf)
       · first | exact fun _ => rfl | (intro _; kernel_rfl)
       · conv => lhs; whnf
       · conv => lhs; whnf)
    | (apply aw_draw (by kernel_rfl) (by kernel_rfl))
    | apply y_nil
    | (apply y_val rfl
       · conv => lhs; whnf
       · conv => lhs; whnf; arg 2; whnf)
    | (apply y_store rfl rfl rfl
       · conv => lhs; whnf
       · rfl
       · rfl
       · conv => lhs; whnf; arg 1; whnf
       · conv => lhs; whnf; arg 1; whnf
       · exact ⟨by kernel_rfl, by kernel_rfl⟩
       · rfl)
    | (apply y_app rfl rfl
       · conv => lhs; whnf
       · first | exact elemInt | (conv => lhs; whnf; arg 1; whnf)
       · first | exact fun _ => rfl | (intro _; kernel_rfl)
       · conv => lhs; whnf
       · rfl
       · rfl
       · conv => lhs; whnf; arg 1; whnf
       · conv => lhs; whnf)
    | (apply y_lit0 rfl rfl
       · conv => lhs; whnf
       · first | exact elemInt | (conv => lhs; whnf; arg 1; whnf))
    | (apply y_lit1 rfl rfl
       · conv => lhs; whnf
       · first | exact elemInt | (conv => lhs; whnf; arg 1; whnf)
       · conv => lhs; whnf; arg 1; whnf
       · rfl
       · rfl)
    | (apply y_onlit rfl rfl
       · conv => lhs; whnf
       · first | exact elemInt | (conv => lhs; whnf; arg 1; whnf)
       · first | exact fun _ => rfl | (intro _; kernel_rfl)
       · conv => lhs; whnf
       · conv => lhs; whnf)
    | exact apartB_none
    | exact apartB_nil
    | exact all_nil
    | (show List.all _ _ = true; rfl)
    | (show apartB _ _ = true; rfl)
    | exact ([] : List Nat)
    | exact (1000000 : Nat)
    | (apply aw_cond_t
       · conv => lhs; whnf; arg 1; arg 1; whnf)
    | (apply aw_cond_f
       · conv => lhs; whnf; arg 1; arg 1; whnf)
    | (refine aw_cond (by conv => lhs; whnf) ?_ ?_ <;> intro hb)
    | refine aw_ret ?_
    | refine aw_exit ?_
    | refine k_seq_exit ?_
    | refine k_seq_ret ?_
    | refine k_block_ret ?_
    | refine k_block_hit rfl ?_
    | refine k_block_miss rfl ?_
    | refine k_scope_exit ?_
    | refine k_scope_ret ?_
    | refine k_loop_exit ?_
    | refine k_loop_ret ?_
    | refine k_end ?_
    | refine k_end_ret ?_
    | (refine ⟨_, by conv => lhs; whnf; arg 2; whnf, ?_⟩; conv => rhs; whnf)
    | exact trivial
    | intro hg)
  · rfl
  · simp only [List.length_nil, List.length_drop, Nat.zero_add, maxLen]; omega
  · simp only [Nat.zero_add]; omega
theorem lit_bs (a : Array UInt8) : (⟨a⟩ : ByteArray) = bs a.toList := by unfold bs; simp
/-- the text of a reference -/
def refB (n : List UInt8) : List D → List UInt8
  | [] => n
  | d :: ds => if d.n == 1 then refB n ds ++ [33] else [91] ++ refB n ds ++ [93]
theorem refB_length (n : List UInt8) : ∀ l, (refB n l).length ≤ n.length + 2 * l.length
  | [] => by simp [refB]
  | d :: ds => by
    have := refB_length n ds
    unfold refB
    split <;> simp <;> omega
set_option maxRecDepth 100000 in
theorem refR_ac (n : List UInt8) (hn : n.length ≤ 2000000) : ∀ (l : List D), l.length ≤ 2000000 → AC EN Tryd.prog 166 [.agg [.c (.string (bs n)), .sl 3 l]] (.c (.string (bs (refB n l))))
  | [], _ => by
    refine ac_enter 20 Tryd.func166 rfl rfl rfl rfl ?_
    intro s w he
    have h1 : AC EN Tryd.prog 178 [.agg [.c (.string (bs n)), .sl 3 []]] (.c (.bool false)) := nonNull_ac (.obj [.str (bs n), .list []])
    repeat' (first
    | refine aw_seq ?_
    | refine aw_region ?_
    | refine awo_nil ?_
    | refine k_seq ?_
    | refine k_block ?_
    | refine k_scope ?_
    | refine aw_block ?_
    | refine aw_skip ?_
    | refine aw_label ?_
    | refine aw_scope ?_
    | (apply s_val rfl
       · conv => lhs; whnf
       · conv => lhs; whnf; arg 2; whnf)
    | (apply s_call rfl
       · conv => lhs; whnf
       · conv => lhs; whnf
       · first | exact h1)
    | (apply s_box rfl rfl rfl rfl
       · conv => lhs; whnf; arg 1; whnf
       · rfl)
    | (apply aw_cond_t
       · conv => lhs; whnf; arg 1; arg 1; whnf)
    | (apply aw_cond_f
       · conv => lhs; whnf; arg 1; arg 1; whnf)
    | (refine aw_cond (by conv => lhs; whnf) ?_ ?_ <;> intro hb)
    | refine aw_ret ?_
    | refine aw_exit ?_
    | refine k_seq_exit ?_
    | refine k_seq_ret ?_
    | refine k_block_ret ?_
    | refine k_block_hit rfl ?_
    | refine k_block_miss rfl ?_
    | refine k_scope_exit ?_
    | refine k_scope_ret ?_
    | refine k_loop_exit ?_
    | refine k_loop_ret ?_
    | refine k_end ?_
    | refine k_end_ret ?_
    | (refine ⟨_, by conv => lhs; whnf; arg 2; whnf, ?_⟩; conv => rhs; whnf)
    | exact trivial
    | intro hg)
    rfl
  | d :: ds, hl => by
    have ih := refR_ac n hn ds (by simp at hl; omega)
    have h2 : AC EN Tryd.prog 179 [.agg [.c (.string (bs n)), .sl 3 (d :: ds)]] (.agg [.c (.string (bs n)), .sl 3 ds]) := cut_ac (.obj [.str (bs n), .list (d :: ds)]) (Nat.succ_pos _) hl
    have h1 : AC EN Tryd.prog 178 [.agg [.c (.string (bs n)), .sl 3 (d :: ds)]] (.c (.bool (d.n == 1))) := nonNull_ac (.obj [.str (bs n), .list (d :: ds)])
    have hlen := refB_length n ds
    simp only [List.length_cons] at hl
    refine ac_enter 20 Tryd.func166 rfl rfl rfl rfl ?_
    intro s w he
    repeat' (first
    | refine aw_seq ?_
    | refine aw_region ?_
    | refine awo_nil ?_
    | refine k_seq ?_
    | refine k_block ?_
    | refine k_scope ?_
    | refine aw_block ?_
    | refine aw_skip ?_
    | refine aw_label ?_
    | refine aw_scope ?_
    | (apply s_val rfl
       · conv => lhs; whnf
       · conv => lhs; whnf; arg 2; whnf)
    | (apply s_call rfl
       · conv => lhs; whnf
       · conv => lhs; whnf
       · first | exact h1 | exact h2 | exact ih)
    | (apply s_box rfl rfl rfl rfl
       · conv => lhs; whnf; arg 1; whnf
       · rfl)
    | (apply aw_cond_t
       · conv => lhs; whnf; arg 1; arg 1; whnf)
    | (apply aw_cond_f
       · conv => lhs; whnf; arg 1; arg 1; whnf)
    | (refine aw_cond (by conv => lhs; whnf) ?_ ?_ <;> intro hb)
    | refine aw_ret ?_
    | refine aw_exit ?_
    | refine k_seq_exit ?_
    | refine k_seq_ret ?_
    | refine k_block_ret ?_
    | refine k_block_hit rfl ?_
    | refine k_block_miss rfl ?_
    | refine k_scope_exit ?_
    | refine k_scope_ret ?_
    | refine k_loop_exit ?_
    | refine k_loop_ret ?_
    | refine k_end ?_
    | refine k_end_ret ?_
    | (refine ⟨_, by conv => lhs; whnf; arg 2; whnf, ?_⟩; conv => rhs; whnf)
    | exact trivial
    | intro hg)
    all_goals first
      | (simp only [lit_bs, bs_append, bs_size, List.length_append, List.length_cons, List.length_nil, maxLen]; omega)
      | (simp only [lit_bs, bs_append, refB, ‹(d.n == 1) = _›, if_true, if_false, Bool.false_eq_true, ↓reduceIte]; done)
      | (exfalso; simp at hb; done)
end Go.Proofs.YtohneabalakmeaaDoor
