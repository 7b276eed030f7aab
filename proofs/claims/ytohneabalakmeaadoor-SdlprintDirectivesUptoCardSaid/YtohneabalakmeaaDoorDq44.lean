/- Parts of a proof, merged by a program (shake.py). -/
import Derived.Test.YtohneabalakmeaaDoorDq43
namespace Go.Proofs.YtohneabalakmeaaDoor
open Go.RowKit
attribute [local irreducible] wpList Calls Code.wp AW AWo OpOk seqK blockK scopeK loopK endK AC absLex Yld Sub
def refEq (x y : D) : Bool := strEq (x.f 0) (y.f 0) && eqL intEq (x.f 1).l (y.f 1).l
def argEq (K : Nat) (p q : D) : Bool := strEq (p.f 0) (q.f 0) && (cmpV (K + 1) (p.f 1) (q.f 1) == 0)
def dirEq (K : Nat) (x y : D) : Bool := strEq (x.f 0) (y.f 0) && eqL (argEq K) (x.f 1).l (y.f 1).l
def inEq (K : Nat) (x y : D) : Bool := strEq (x.f 0) (y.f 0) && refEq (x.f 1) (y.f 1) && ((x.f 2).b == (y.f 2).b) && (cmpV (K + 1) (x.f 3) (y.f 3) == 0) && eqL (dirEq K) (x.f 4).l (y.f 4).l
def fldEq (K : Nat) (x y : D) : Bool := strEq (x.f 0) (y.f 0) && refEq (x.f 2) (y.f 2) && eqL (inEq K) (x.f 1).l (y.f 1).l && eqL (dirEq K) (x.f 3).l (y.f 3).l
def memEq (K : Nat) (x y : D) : Bool := strEq (x.f 0) (y.f 0) && eqL (dirEq K) (x.f 1).l (y.f 1).l
def defEq (K : Nat) (x y : D) : Bool :=
  ((x.f 0).n == (y.f 0).n) && strEq (x.f 1) (y.f 1) && eqL strEq (x.f 2).l (y.f 2).l && eqL (dirEq K) (x.f 3).l (y.f 3).l && eqL (fldEq K) (x.f 4).l (y.f 4).l && eqL (inEq K) (x.f 6).l (y.f 6).l && eqL (memEq K) (x.f 5).l (y.f 5).l
def docEq (K : Nat) (x y : D) : Bool := eqL (defEq K) (x.f 0).l (y.f 0).l
/-- a datum that is not too large -/
def Ok2 (K : Nat) (t : TypeId) (x : D) : Prop := Fits Tryd.prog (K + 1) t x ∧ bulkD x ≤ 1048576
def Ok2L (K : Nat) (t : TypeId) (l : List D) : Prop := (∀ i, i < l.length → Fits Tryd.prog (K + 1) t (gD l i)) ∧ bulkL l ≤ 1048576
set_option maxRecDepth 100000 in
theorem Ok2L.at {K : Nat} {t : TypeId} {l : List D} (h : Ok2L K t l) {i : Nat} (hi : i < l.length) : Ok2 K t (gD l i) := ⟨h.1 i hi, by have := bulk_mem hi; have := h.2; omega⟩
set_option maxRecDepth 100000 in
theorem Ok2L.len {K : Nat} {t : TypeId} {l : List D} (h : Ok2L K t l) : l.length ≤ 100000000 := by have := bulkL_len l; have := h.2; omega
set_option maxRecDepth 100000 in
theorem ok2_ref {K : Nat} {x : D} (h : Ok2 K 62 x) : (x.f 1).l.length ≤ 100000000 := by have := (refT_bound h.1).2; have := h.2; omega
set_option maxRecDepth 100000 in
theorem ok2_arg {K : Nat} {x : D} (h : Ok2 K 103 x) : Ok2 K 49 (x.f 1) := by
  obtain ⟨hf, hb⟩ := h
  obtain ⟨x0, x1, rfl, h1⟩ := fits103 hf
  have e : bulkD (D.obj [.str x0, x1]) = x0.size + 2 + bulkD x1 := by simp [bulkD, bulkL]; omega
  exact ⟨h1.up, by show bulkD x1 ≤ _; omega⟩
set_option maxRecDepth 100000 in
theorem ok2_dir {K : Nat} {x : D} (h : Ok2 K 101 x) : Ok2L K 103 (x.f 1).l := by
  obtain ⟨hf, hb⟩ := h
  obtain ⟨x0, x1, rfl, h1⟩ := fits101 hf
  have e : bulkD (D.obj [.str x0, .list x1]) = x0.size + 1 + (bulkL x1 + 1) + 1 := by simp [bulkD, bulkL]
  exact ⟨fitL h1, by show bulkL x1 ≤ _; omega⟩
set_option maxRecDepth 100000 in
theorem ok2_in {K : Nat} {x : D} (h : Ok2 K 132 x) : Ok2 K 62 (x.f 1) ∧ Ok2 K 49 (x.f 3) ∧ Ok2L K 101 (x.f 4).l := by
  obtain ⟨hf, hb⟩ := h
  obtain ⟨x0, x1, x2, x3, x4, rfl, h1, h3, h4⟩ := fits132 hf
  have e : bulkD (D.obj [.str x0, x1, .bool x2, x3, .list x4]) = x0.size + 1 + (bulkD x1 + (1 + (bulkD x3 + (bulkL x4 + 1)))) + 1 := by simp [bulkD, bulkL]
  exact ⟨⟨h1.up, by show bulkD x1 ≤ _; omega⟩, ⟨h3.up, by show bulkD x3 ≤ _; omega⟩, fitL h4, by show bulkL x4 ≤ _; omega⟩
set_option maxRecDepth 100000 in
theorem ok2_fld {K : Nat} {x : D} (h : Ok2 K 64 x) : Ok2 K 62 (x.f 2) ∧ Ok2L K 132 (x.f 1).l ∧ Ok2L K 101 (x.f 3).l := by
  obtain ⟨hf, hb⟩ := h
  obtain ⟨x0, x1, x2, x3, rfl, h1, h3, h4⟩ := fits64 hf
  have e : bulkD (D.obj [.str x0, .list x1, x2, .list x3]) = x0.size + 1 + (bulkL x1 + 1 + (bulkD x2 + (bulkL x3 + 1))) + 1 := by simp [bulkD, bulkL]
  exact ⟨⟨h3.up, by show bulkD x2 ≤ _; omega⟩, ⟨fitL h1, by show bulkL x1 ≤ _; omega⟩, fitL h4, by show bulkL x3 ≤ _; omega⟩
set_option maxRecDepth 100000 in
theorem ok2_mem {K : Nat} {x : D} (h : Ok2 K 112 x) : Ok2L K 101 (x.f 1).l := by
  obtain ⟨hf, hb⟩ := h
  obtain ⟨x0, x1, rfl, h1⟩ := fits112 hf
  have e : bulkD (D.obj [.str x0, .list x1]) = x0.size + 1 + (bulkL x1 + 1) + 1 := by simp [bulkD, bulkL]
  exact ⟨fitL h1, by show bulkL x1 ≤ _; omega⟩
set_option maxRecDepth 100000 in
theorem ok2_def {K : Nat} {x : D} (h : Ok2 K 58 x) : (x.f 2).l.length ≤ 100000000 ∧ Ok2L K 101 (x.f 3).l ∧ Ok2L K 64 (x.f 4).l ∧ Ok2L K 112 (x.f 5).l ∧ Ok2L K 132 (x.f 6).l := by
  obtain ⟨hf, hb⟩ := h
  obtain ⟨x0, x1, x2, x3, x4, x5, x6, rfl, h2, h3, h4, h5, h6⟩ := fits58 hf
  have e : bulkD (D.obj [.int x0, .str x1, .list x2, .list x3, .list x4, .list x5, .list x6]) = 1 + (x1.size + 1 + (bulkL x2 + 1 + (bulkL x3 + 1 + (bulkL x4 + 1 + (bulkL x5 + 1 + (bulkL x6 + 1)))))) + 1 := by simp [bulkD, bulkL]
  have l2 := bulkL_len x2
  exact ⟨by show x2.length ≤ _; omega, ⟨fitL h3, by show bulkL x3 ≤ _; omega⟩, ⟨fitL h4, by show bulkL x4 ≤ _; omega⟩, ⟨fitL h5, by show bulkL x5 ≤ _; omega⟩, fitL h6, by show bulkL x6 ≤ _; omega⟩
set_option maxRecDepth 100000 in
theorem ok2_doc {K : Nat} {x : D} (h : Ok2 K 42 x) : Ok2L K 58 (x.f 0).l := by
  obtain ⟨hf, hb⟩ := h
  obtain ⟨x0, rfl, h1⟩ := fits42 hf
  have e : bulkD (D.obj [.list x0]) = bulkL x0 + 1 + 1 := by simp [bulkD, bulkL]
  exact ⟨fitL h1, by show bulkL x0 ≤ _; omega⟩
set_option maxRecDepth 100000 in
theorem sameRef_ac {K : Nat} (x y : D) (hx : Ok2 K 62 x) : AC EN Tryd.prog 127 [.agg (cellsV Tryd.prog 12 62 x), .agg (cellsV Tryd.prog 12 62 y)] (.c (.bool (refEq x y))) := by
  have h1 := eqInt_ac (x.f 1).l (y.f 1).l (ok2_ref hx)
  refine ac_enter 17 Tryd.func127 rfl rfl rfl rfl ?_
  intro s w he
  repeat' (first
    | refine aw_seq ?_
    | refine aw_region ?_
    | refine awo_nil ?_
    | refine k_seq ?_
    | refine k_block ?_
    | refine k_scope ?_
    | refine aw_block ?_
    | refine aw_skip ?_
    | refine aw_label ?_
    | refine aw_scope ?_
    | (apply s_pick_t rfl rfl
       · conv => lhs; whnf
       · conv => lhs; whnf
       · first | exact bT1 (by assumption) | exact bT2 (by assumption))
    | (apply s_pick_f rfl rfl
       · conv => lhs; whnf
       · conv => lhs; whnf
       · first | exact bF1 (by assumption) | exact bF2 (by assumption))
    | (apply s_val rfl
       · conv => lhs; whnf
       · conv => lhs; whnf; arg 2; whnf)
    | (apply s_call rfl
       · conv => lhs; whnf
       · conv => lhs; whnf
       · first | exact h1)
    | (apply s_box rfl rfl rfl rfl
       · conv => lhs; whnf; arg 1; whnf
       · rfl)
    | (apply s_wanted_val rfl
       · conv => lhs; whnf
       · conv => lhs; whnf
       · first | rfl | assumption
       · conv => lhs; whnf; arg 2; whnf)
    | (apply s_wanted_call rfl
       · conv => lhs; whnf
       · conv => lhs; whnf
       · first | rfl | assumption
       · conv => lhs; whnf
       · first | exact h1)
    | (apply s_skip rfl
       · conv => lhs; whnf
       · conv => lhs; whnf
       · first | rfl | assumption)
    | (apply s_guard_val rfl
       · conv => lhs; whnf
       · conv => lhs; whnf
       · conv => lhs; whnf; arg 2; whnf)
    | (apply s_guard_call rfl
       · conv => lhs; whnf
       · conv => lhs; whnf
       · conv => lhs; whnf
       · first | exact h1)
    | (apply aw_cond_t
       · conv => lhs; whnf; arg 1; arg 1; whnf)
    | (apply aw_cond_f
       · conv => lhs; whnf; arg 1; arg 1; whnf)
    | (refine aw_cond (by conv => lhs; whnf) ?_ ?_ <;> intro hb)
    | refine aw_ret ?_
    | refine aw_exit ?_
    | refine k_seq_exit ?_
    | refine k_seq_ret ?_
    | refine k_block_ret ?_
    | refine k_block_hit rfl ?_
    | refine k_block_miss rfl ?_
    | refine k_scope_exit ?_
    | refine k_scope_ret ?_
    | refine k_loop_exit ?_
    | refine k_loop_ret ?_
    | refine k_end ?_
    | refine k_end_ret ?_
    | (refine ⟨_, by conv => lhs; whnf; arg 2; whnf, ?_⟩; conv => rhs; whnf)
    | exact trivial
    | intro hg)
  all_goals try (exact (show Tryd.prog.underlying 4 = some .bool from Tryd.underlying4))
  all_goals try (simp only [beq_true, beq_false, beq_self_eq_true, Nat.zero_add, Nat.reduceAdd, Bool.not_eq_eq_eq_not, Bool.not_true, Bool.not_false, bne_iff_ne, ne_eq, bne_eq_false_iff_eq] at *)
  all_goals (first | (simp only [refEq, strEq, *, Bool.true_and, Bool.false_and, Bool.and_true, Bool.and_false]; done) | (simp_all [refEq, strEq]; done) | trace_state)
set_option maxRecDepth 100000 in
theorem sameArg_ac {K : Nat} (x y : D) (hx : Ok2 K 103 x) (hy : Ok2 K 103 y) : AC EN Tryd.prog 123 [.agg (cellsV Tryd.prog 12 103 x), .agg (cellsV Tryd.prog 12 103 y)] (.c (.bool (argEq K x y))) := by
  have qx := ok2_arg hx
  have qy := ok2_arg hy
  have h1 := same_val (K + 1) (x.f 1) (y.f 1) qx.1 qy.1 qx.2 qy.2
  refine ac_enter 17 Tryd.func123 rfl rfl rfl rfl ?_
  intro s w he
  repeat' (first
    | refine aw_seq ?_
    | refine aw_region ?_
    | refine awo_nil ?_
    | refine k_seq ?_
    | refine k_block ?_
    | refine k_scope ?_
    | refine aw_block ?_
    | refine aw_skip ?_
    | refine aw_label ?_
    | refine aw_scope ?_
    | (apply s_pick_t rfl rfl
       · conv => lhs; whnf
       · conv => lhs; whnf
       · first | exact bT1 (by assumption) | exact bT2 (by assumption))
    | (apply s_pick_f rfl rfl
       · conv => lhs; whnf
       · conv => lhs; whnf
       · first | exact bF1 (by assumption) | exact bF2 (by assumption))
    | (apply s_val rfl
       · conv => lhs; whnf
       · conv => lhs; whnf; arg 2; whnf)
    | (apply s_call rfl
       · conv => lhs; whnf
       · conv => lhs; whnf
       · first | exact h1)
    | (apply s_box rfl rfl rfl rfl
       · conv => lhs; whnf; arg 1; whnf
       · rfl)
    | (apply s_wanted_val rfl
       · conv => lhs; whnf
       · conv => lhs; whnf
       · first | rfl | assumption
       · conv => lhs; whnf; arg 2; whnf)
    | (apply s_wanted_call rfl
       · conv => lhs; whnf
       · conv => lhs; whnf
       · first | rfl | assumption
       · conv => lhs; whnf
       · first | exact h1)
    | (apply s_skip rfl
       · conv => lhs; whnf
       · conv => lhs; whnf
       · first | rfl | assumption)
    | (apply s_guard_val rfl
       · conv => lhs; whnf
       · conv => lhs; whnf
       · conv => lhs; whnf; arg 2; whnf)
    | (apply s_guard_call rfl
       · conv => lhs; whnf
       · conv => lhs; whnf
       · conv => lhs; whnf
       · first | exact h1)
    | (apply aw_cond_t
       · conv => lhs; whnf; arg 1; arg 1; whnf)
    | (apply aw_cond_f
       · conv => lhs; whnf; arg 1; arg 1; whnf)
    | (refine aw_cond (by conv => lhs; whnf) ?_ ?_ <;> intro hb)
    | refine aw_ret ?_
    | refine aw_exit ?_
    | refine k_seq_exit ?_
    | refine k_seq_ret ?_
    | refine k_block_ret ?_
    | refine k_block_hit rfl ?_
    | refine k_block_miss rfl ?_
    | refine k_scope_exit ?_
    | refine k_scope_ret ?_
    | refine k_loop_exit ?_
    | refine k_loop_ret ?_
    | refine k_end ?_
    | refine k_end_ret ?_
    | (refine ⟨_, by conv => lhs; whnf; arg 2; whnf, ?_⟩; conv => rhs; whnf)
    | exact trivial
    | intro hg)
  all_goals try (exact (show Tryd.prog.underlying 4 = some .bool from Tryd.underlying4))
  all_goals try (simp only [beq_true, beq_false, beq_self_eq_true, Nat.zero_add, Nat.reduceAdd, Bool.not_eq_eq_eq_not, Bool.not_true, Bool.not_false, bne_iff_ne, ne_eq, bne_eq_false_iff_eq] at *)
  all_goals (first | (simp only [argEq, strEq, *, Bool.true_and, Bool.false_and, Bool.and_true, Bool.and_false]; done) | (simp_all [argEq, strEq]; done) | trace_state)
set_option maxRecDepth 100000 in
theorem sameDir_ac {K : Nat} (x y : D) (hx : Ok2 K 101 x) (hy : Ok2 K 101 y) : AC EN Tryd.prog 121 [.agg (cellsV Tryd.prog 12 101 x), .agg (cellsV Tryd.prog 12 101 y)] (.c (.bool (dirEq K x y))) := by
  have qx := ok2_dir hx
  have qy := ok2_dir hy
  have h1 := eqFArg_ac (x.f 1).l (y.f 1).l (argEq K) qx.len fun i hi hj => sameArg_ac _ _ (qx.at hi) (qy.at hj)
  refine ac_enter 17 Tryd.func121 rfl rfl rfl rfl ?_
  intro s w he
  repeat' (first
    | refine aw_seq ?_
    | refine aw_region ?_
    | refine awo_nil ?_
    | refine k_seq ?_
    | refine k_block ?_
    | refine k_scope ?_
    | refine aw_block ?_
    | refine aw_skip ?_
    | refine aw_label ?_
    | refine aw_scope ?_
    | (apply s_pick_t rfl rfl
       · conv => lhs; whnf
       · conv => lhs; whnf
       · first | exact bT1 (by assumption) | exact bT2 (by assumption))
    | (apply s_pick_f rfl rfl
       · conv => lhs; whnf
       · conv => lhs; whnf
       · first | exact bF1 (by assumption) | exact bF2 (by assumption))
    | (apply s_val rfl
       · conv => lhs; whnf
       · conv => lhs; whnf; arg 2; whnf)
    | (apply s_call rfl
       · conv => lhs; whnf
       · conv => lhs; whnf
       · first | exact h1)
    | (apply s_box rfl rfl rfl rfl
       · conv => lhs; whnf; arg 1; whnf
       · rfl)
    | (apply s_wanted_val rfl
       · conv => lhs; whnf
       · conv => lhs; whnf
       · first | rfl | assumption
       · conv => lhs; whnf; arg 2; whnf)
    | (apply s_wanted_call rfl
       · conv => lhs; whnf
       · conv => lhs; whnf
       · first | rfl | assumption
       · conv => lhs; whnf
       · first | exact h1)
    | (apply s_skip rfl
       · conv => lhs; whnf
       · conv => lhs; whnf
       · first | rfl | assumption)
    | (apply s_guard_val rfl
       · conv => lhs; whnf
       · conv => lhs; whnf
       · conv => lhs; whnf; arg 2; whnf)
    | (apply s_guard_call rfl
       · conv => lhs; whnf
       · conv => lhs; whnf
       · conv => lhs; whnf
       · first | exact h1)
    | (apply aw_cond_t
       · conv => lhs; whnf; arg 1; arg 1; whnf)
    | (apply aw_cond_f
       · conv => lhs; whnf; arg 1; arg 1; whnf)
    | (refine aw_cond (by conv => lhs; whnf) ?_ ?_ <;> intro hb)
    | refine aw_ret ?_
    | refine aw_exit ?_
    | refine k_seq_exit ?_
    | refine k_seq_ret ?_
    | refine k_block_ret ?_
    | refine k_block_hit rfl ?_
    | refine k_block_miss rfl ?_
    | refine k_scope_exit ?_
    | refine k_scope_ret ?_
    | refine k_loop_exit ?_
    | refine k_loop_ret ?_
    | refine k_end ?_
    | refine k_end_ret ?_
    | (refine ⟨_, by conv => lhs; whnf; arg 2; whnf, ?_⟩; conv => rhs; whnf)
    | exact trivial
    | intro hg)
  all_goals try (exact (show Tryd.prog.underlying 4 = some .bool from Tryd.underlying4))
  all_goals try (simp only [beq_true, beq_false, beq_self_eq_true, Nat.zero_add, Nat.reduceAdd, Bool.not_eq_eq_eq_not, Bool.not_true, Bool.not_false, bne_iff_ne, ne_eq, bne_eq_false_iff_eq] at *)
  all_goals (first | (simp only [dirEq, strEq, *, Bool.true_and, Bool.false_and, Bool.and_true, Bool.and_false]; done) | (simp_all [dirEq, strEq]; done) | trace_state)
set_option maxRecDepth 100000 in
theorem sameDirs_ac {K : Nat} (l m : List D) (hx : Ok2L K 101 l) (hy : Ok2L K 101 m) : AC EN Tryd.prog 84 [.sl 101 l, .sl 101 m] (.c (.bool (eqL (dirEq K) l m))) := by
  have h1 := eqFDir_ac l m (dirEq K) hx.len fun i hi hj => sameDir_ac _ _ (hx.at hi) (hy.at hj)
  refine ac_enter 8 Tryd.func84 rfl rfl rfl rfl ?_
  intro s w he
  repeat' (first
    | refine aw_seq ?_
    | refine aw_region ?_
    | refine awo_nil ?_
    | refine k_seq ?_
    | refine k_block ?_
    | refine k_scope ?_
    | refine aw_block ?_
    | refine aw_skip ?_
    | refine aw_label ?_
    | refine aw_scope ?_
    | (apply s_val rfl
       · conv => lhs; whnf
       · conv => lhs; whnf; arg 2; whnf)
    | (apply s_call rfl
       · conv => lhs; whnf
       · conv => lhs; whnf
       · first | exact h1)
    | (apply aw_cond_t
       · conv => lhs; whnf; arg 1; arg 1; whnf)
    | (apply aw_cond_f
       · conv => lhs; whnf; arg 1; arg 1; whnf)
    | (refine aw_cond (by conv => lhs; whnf) ?_ ?_ <;> intro hb)
    | refine aw_ret ?_
    | refine aw_exit ?_
    | refine k_seq_exit ?_
    | refine k_seq_ret ?_
    | refine k_block_ret ?_
    | refine k_block_hit rfl ?_
    | refine k_block_miss rfl ?_
    | refine k_scope_exit ?_
    | refine k_scope_ret ?_
    | refine k_loop_exit ?_
    | refine k_loop_ret ?_
    | refine k_end ?_
    | refine k_end_ret ?_
    | (refine ⟨_, by conv => lhs; whnf; arg 2; whnf, ?_⟩; conv => rhs; whnf)
    | exact trivial
    | intro hg)
  all_goals try (exact (show Tryd.prog.underlying 4 = some .bool from Tryd.underlying4))
  all_goals try (simp only [beq_true, beq_false, beq_self_eq_true, Nat.zero_add, Nat.reduceAdd, Bool.not_eq_eq_eq_not, Bool.not_true, Bool.not_false, bne_iff_ne, ne_eq, bne_eq_false_iff_eq] at *)
  all_goals (first | (simp only [dirEq, strEq, *, Bool.true_and, Bool.false_and, Bool.and_true, Bool.and_false]; done) | (simp_all [dirEq, strEq]; done) | trace_state)
set_option maxRecDepth 100000 in
theorem sameIn_ac {K : Nat} (x y : D) (hx : Ok2 K 132 x) (hy : Ok2 K 132 y) : AC EN Tryd.prog 129 [.agg (cellsV Tryd.prog 12 132 x), .agg (cellsV Tryd.prog 12 132 y)] (.c (.bool (inEq K x y))) := by
  obtain ⟨a1, a2, a3⟩ := ok2_in hx
  obtain ⟨b1, b2, b3⟩ := ok2_in hy
  have h1 := sameRef_ac (x.f 1) (y.f 1) a1
  have h2 := same_val (K + 1) (x.f 3) (y.f 3) a2.1 b2.1 a2.2 b2.2
  have h3 := sameDirs_ac (x.f 4).l (y.f 4).l a3 b3
  refine ac_enter 38 Tryd.func129 rfl rfl rfl rfl ?_
  intro s w he
  repeat' (first
    | refine aw_seq ?_
    | refine aw_region ?_
    | refine awo_nil ?_
    | refine k_seq ?_
    | refine k_block ?_
    | refine k_scope ?_
    | refine aw_block ?_
    | refine aw_skip ?_
    | refine aw_label ?_
    | refine aw_scope ?_
    | (apply s_pick_t rfl rfl
       · conv => lhs; whnf
       · conv => lhs; whnf
       · first | exact bT1 (by assumption) | exact bT2 (by assumption))
    | (apply s_pick_f rfl rfl
       · conv => lhs; whnf
       · conv => lhs; whnf
       · first | exact bF1 (by assumption) | exact bF2 (by assumption))
    | (apply s_val rfl
       · conv => lhs; whnf
       · conv => lhs; whnf; arg 2; whnf)
    | (apply s_call rfl
       · conv => lhs; whnf
       · conv => lhs; whnf
       · first | exact h1 | exact h2 | exact h3)
    | (apply s_box rfl rfl rfl rfl
       · conv => lhs; whnf; arg 1; whnf
       · rfl)
    | (apply s_wanted_val rfl
       · conv => lhs; whnf
       · conv => lhs; whnf
       · first | rfl | assumption
       · conv => lhs; whnf; arg 2; whnf)
    | (apply s_wanted_call rfl
       · conv => lhs; whnf
       · conv => lhs; whnf
       · first | rfl | assumption
       · conv => lhs; whnf
       · first | exact h1 | exact h2 | exact h3)
    | (apply s_skip rfl
       · conv => lhs; whnf
       · conv => lhs; whnf
       · first | rfl | assumption)
    | (apply s_guard_val rfl
       · conv => lhs; whnf
       · conv => lhs; whnf
       · conv => lhs; whnf; arg 2; whnf)
    | (apply s_guard_call rfl
       · conv => lhs; whnf
       · conv => lhs; whnf
       · conv => lhs; whnf
       · first | exact h1 | exact h2 | exact h3)
    | (apply aw_cond_t
       · conv => lhs; whnf; arg 1; arg 1; whnf)
    | (apply aw_cond_f
       · conv => lhs; whnf; arg 1; arg 1; whnf)
    | (refine aw_cond (by conv => lhs; whnf) ?_ ?_ <;> intro hb)
    | refine aw_ret ?_
    | refine aw_exit ?_
    | refine k_seq_exit ?_
    | refine k_seq_ret ?_
    | refine k_block_ret ?_
    | refine k_block_hit rfl ?_
    | refine k_block_miss rfl ?_
    | refine k_scope_exit ?_
    | refine k_scope_ret ?_
    | refine k_loop_exit ?_
    | refine k_loop_ret ?_
    | refine k_end ?_
    | refine k_end_ret ?_
    | (refine ⟨_, by conv => lhs; whnf; arg 2; whnf, ?_⟩; conv => rhs; whnf)
    | exact trivial
    | intro hg)
  all_goals try (exact (show Tryd.prog.underlying 4 = some .bool from Tryd.underlying4))
  all_goals try (simp only [beq_true, beq_false, beq_self_eq_true, Nat.zero_add, Nat.reduceAdd, Bool.not_eq_eq_eq_not, Bool.not_true, Bool.not_false, bne_iff_ne, ne_eq, bne_eq_false_iff_eq] at *)
  all_goals (first | (simp only [inEq, strEq, *, Bool.true_and, Bool.false_and, Bool.and_true, Bool.and_false]; done) | (simp_all [inEq, strEq]; done) | trace_state)
set_option maxRecDepth 100000 in
theorem sameIns_ac {K : Nat} (l m : List D) (hx : Ok2L K 132 l) (hy : Ok2L K 132 m) : AC EN Tryd.prog 86 [.sl 132 l, .sl 132 m] (.c (.bool (eqL (inEq K) l m))) := by
  have h1 := eqFInput_ac l m (inEq K) hx.len fun i hi hj => sameIn_ac _ _ (hx.at hi) (hy.at hj)
  refine ac_enter 8 Tryd.func86 rfl rfl rfl rfl ?_
  intro s w he
  repeat' (first
    | refine aw_seq ?_
    | refine aw_region ?_
    | refine awo_nil ?_
    | refine k_seq ?_
    | refine k_block ?_
    | refine k_scope ?_
    | refine aw_block ?_
    | refine aw_skip ?_
    | refine aw_label ?_
    | refine aw_scope ?_
    | (apply s_val rfl
       · conv => lhs; whnf
       · conv => lhs; whnf; arg 2; whnf)
    | (apply s_call rfl
       · conv => lhs; whnf
       · conv => lhs; whnf
       · first | exact h1)
    | (apply aw_cond_t
       · conv => lhs; whnf; arg 1; arg 1; whnf)
    | (apply aw_cond_f
       · conv => lhs; whnf; arg 1; arg 1; whnf)
    | (refine aw_cond (by conv => lhs; whnf) ?_ ?_ <;> intro hb)
    | refine aw_ret ?_
    | refine aw_exit ?_
    | refine k_seq_exit ?_
    | refine k_seq_ret ?_
    | refine k_block_ret ?_
    | refine k_block_hit rfl ?_
    | refine k_block_miss rfl ?_
    | refine k_scope_exit ?_
    | refine k_scope_ret ?_
    | refine k_loop_exit ?_
    | refine k_loop_ret ?_
    | refine k_end ?_
    | refine k_end_ret ?_
    | (refine ⟨_, by conv => lhs; whnf; arg 2; whnf, ?_⟩; conv => rhs; whnf)
    | exact trivial
    | intro hg)
  all_goals try (exact (show Tryd.prog.underlying 4 = some .bool from Tryd.underlying4))
  all_goals try (simp only [beq_true, beq_false, beq_self_eq_true, Nat.zero_add, Nat.reduceAdd, Bool.not_eq_eq_eq_not, Bool.not_true, Bool.not_false, bne_iff_ne, ne_eq, bne_eq_false_iff_eq] at *)
  all_goals (first | (simp only [inEq, strEq, *, Bool.true_and, Bool.false_and, Bool.and_true, Bool.and_false]; done) | (simp_all [inEq, strEq]; done) | trace_state)
set_option maxRecDepth 100000 in
theorem sameFld_ac {K : Nat} (x y : D) (hx : Ok2 K 64 x) (hy : Ok2 K 64 y) : AC EN Tryd.prog 126 [.agg (cellsV Tryd.prog 12 64 x), .agg (cellsV Tryd.prog 12 64 y)] (.c (.bool (fldEq K x y))) := by
  obtain ⟨a1, a2, a3⟩ := ok2_fld hx
  obtain ⟨b1, b2, b3⟩ := ok2_fld hy
  have h1 := sameRef_ac (x.f 2) (y.f 2) a1
  have h2 := sameIns_ac (x.f 1).l (y.f 1).l a2 b2
  have h3 := sameDirs_ac (x.f 3).l (y.f 3).l a3 b3
  refine ac_enter 31 Tryd.func126 rfl rfl rfl rfl ?_
  intro s w he
  repeat' (first
    | refine aw_seq ?_
    | refine aw_region ?_
    | refine awo_nil ?_
    | refine k_seq ?_
    | refine k_block ?_
    | refine k_scope ?_
    | refine aw_block ?_
    | refine aw_skip ?_
    | refine aw_label ?_
    | refine aw_scope ?_
    | (apply s_pick_t rfl rfl
       · conv => lhs; whnf
       · conv => lhs; whnf
       · first | exact bT1 (by assumption) | exact bT2 (by assumption))
    | (apply s_pick_f rfl rfl
       · conv => lhs; whnf
       · conv => lhs; whnf
       · first | exact bF1 (by assumption) | exact bF2 (by assumption))
    | (apply s_val rfl
       · conv => lhs; whnf
       · conv => lhs; whnf; arg 2; whnf)
    | (apply s_call rfl
       · conv => lhs; whnf
       · conv => lhs; whnf
       · first | exact h1 | exact h2 | exact h3)
    | (apply s_box rfl rfl rfl rfl
       · conv => lhs; whnf; arg 1; whnf
       · rfl)
    | (apply s_wanted_val rfl
       · conv => lhs; whnf
       · conv => lhs; whnf
       · first | rfl | assumption
       · conv => lhs; whnf; arg 2; whnf)
    | (apply s_wanted_call rfl
       · conv => lhs; whnf
       · conv => lhs; whnf
       · first | rfl | assumption
       · conv => lhs; whnf
       · first | exact h1 | exact h2 | exact h3)
    | (apply s_skip rfl
       · conv => lhs; whnf
       · conv => lhs; whnf
       · first | rfl | assumption)
    | (apply s_guard_val rfl
       · conv => lhs; whnf
       · conv => lhs; whnf
       · conv => lhs; whnf; arg 2; whnf)
    | (apply s_guard_call rfl
       · conv => lhs; whnf
       · conv => lhs; whnf
       · conv => lhs; whnf
       · first | exact h1 | exact h2 | exact h3)
    | (apply aw_cond_t
       · conv => lhs; whnf; arg 1; arg 1; whnf)
    | (apply aw_cond_f
       · conv => lhs; whnf; arg 1; arg 1; whnf)
    | (refine aw_cond (by conv => lhs; whnf) ?_ ?_ <;> intro hb)
    | refine aw_ret ?_
    | refine aw_exit ?_
    | refine k_seq_exit ?_
    | refine k_seq_ret ?_
    | refine k_block_ret ?_
    | refine k_block_hit rfl ?_
    | refine k_block_miss rfl ?_
    | refine k_scope_exit ?_
    | refine k_scope_ret ?_
    | refine k_loop_exit ?_
    | refine k_loop_ret ?_
    | refine k_end ?_
    | refine k_end_ret ?_
    | (refine ⟨_, by conv => lhs; whnf; arg 2; whnf, ?_⟩; conv => rhs; whnf)
    | exact trivial
    | intro hg)
  all_goals try (exact (show Tryd.prog.underlying 4 = some .bool from Tryd.underlying4))
  all_goals try (simp only [beq_true, beq_false, beq_self_eq_true, Nat.zero_add, Nat.reduceAdd, Bool.not_eq_eq_eq_not, Bool.not_true, Bool.not_false, bne_iff_ne, ne_eq, bne_eq_false_iff_eq] at *)
  all_goals (first | (simp only [fldEq, strEq, *, Bool.true_and, Bool.false_and, Bool.and_true, Bool.and_false]; done) | (simp_all [fldEq, strEq]; done) | trace_state)
set_option maxRecDepth 100000 in
theorem sameFlds_ac {K : Nat} (l m : List D) (hx : Ok2L K 64 l) (hy : Ok2L K 64 m) : AC EN Tryd.prog 85 [.sl 64 l, .sl 64 m] (.c (.bool (eqL (fldEq K) l m))) := by
  have h1 := eqFField_ac l m (fldEq K) hx.len fun i hi hj => sameFld_ac _ _ (hx.at hi) (hy.at hj)
  refine ac_enter 8 Tryd.func85 rfl rfl rfl rfl ?_
  intro s w he
  repeat' (first
    | refine aw_seq ?_
    | refine aw_region ?_
    | refine awo_nil ?_
    | refine k_seq ?_
    | refine k_block ?_
    | refine k_scope ?_
    | refine aw_block ?_
    | refine aw_skip ?_
    | refine aw_label ?_
    | refine aw_scope ?_
    | (apply s_val rfl
       · conv => lhs; whnf
       · conv => lhs; whnf; arg 2; whnf)
    | (apply s_call rfl
       · conv => lhs; whnf
       · conv => lhs; whnf
       · first | exact h1)
    | (apply aw_cond_t
       · conv => lhs; whnf; arg 1; arg 1; whnf)
    | (apply aw_cond_f
       · conv => lhs; whnf; arg 1; arg 1; whnf)
    | (refine aw_cond (by conv => lhs; whnf) ?_ ?_ <;> intro hb)
    | refine aw_ret ?_
    | refine aw_exit ?_
    | refine k_seq_exit ?_
    | refine k_seq_ret ?_
    | refine k_block_ret ?_
    | refine k_block_hit rfl ?_
    | refine k_block_miss rfl ?_
    | refine k_scope_exit ?_
    | refine k_scope_ret ?_
    | refine k_loop_exit ?_
    | refine k_loop_ret ?_
    | refine k_end ?_
    | refine k_end_ret ?_
    | (refine ⟨_, by conv => lhs; whnf; arg 2; whnf, ?_⟩; conv => rhs; whnf)
    | exact trivial
    | intro hg)
  all_goals try (exact (show Tryd.prog.underlying 4 = some .bool from Tryd.underlying4))
  all_goals try (simp only [beq_true, beq_false, beq_self_eq_true, Nat.zero_add, Nat.reduceAdd, Bool.not_eq_eq_eq_not, Bool.not_true, Bool.not_false, bne_iff_ne, ne_eq, bne_eq_false_iff_eq] at *)
  all_goals (first | (simp only [fldEq, strEq, *, Bool.true_and, Bool.false_and, Bool.and_true, Bool.and_false]; done) | (simp_all [fldEq, strEq]; done) | trace_state)
set_option maxRecDepth 100000 in
theorem sameMem_ac {K : Nat} (x y : D) (hx : Ok2 K 112 x) (hy : Ok2 K 112 y) : AC EN Tryd.prog 88 [.agg (cellsV Tryd.prog 12 112 x), .agg (cellsV Tryd.prog 12 112 y)] (.c (.bool (memEq K x y))) := by
  have h1 := sameDirs_ac (x.f 1).l (y.f 1).l (ok2_mem hx) (ok2_mem hy)
  refine ac_enter 17 Tryd.func88 rfl rfl rfl rfl ?_
  intro s w he
  repeat' (first
    | refine aw_seq ?_
    | refine aw_region ?_
    | refine awo_nil ?_
    | refine k_seq ?_
    | refine k_block ?_
    | refine k_scope ?_
    | refine aw_block ?_
    | refine aw_skip ?_
    | refine aw_label ?_
    | refine aw_scope ?_
    | (apply s_pick_t rfl rfl
       · conv => lhs; whnf
       · conv => lhs; whnf
       · first | exact bT1 (by assumption) | exact bT2 (by assumption))
    | (apply s_pick_f rfl rfl
       · conv => lhs; whnf
       · conv => lhs; whnf
       · first | exact bF1 (by assumption) | exact bF2 (by assumption))
    | (apply s_val rfl
       · conv => lhs; whnf
       · conv => lhs; whnf; arg 2; whnf)
    | (apply s_call rfl
       · conv => lhs; whnf
       · conv => lhs; whnf
       · first | exact h1)
    | (apply s_box rfl rfl rfl rfl
       · conv => lhs; whnf; arg 1; whnf
       · rfl)
    | (apply s_wanted_val rfl
       · conv => lhs; whnf
       · conv => lhs; whnf
       · first | rfl | assumption
       · conv => lhs; whnf; arg 2; whnf)
    | (apply s_wanted_call rfl
       · conv => lhs; whnf
       · conv => lhs; whnf
       · first | rfl | assumption
       · conv => lhs; whnf
       · first | exact h1)
    | (apply s_skip rfl
       · conv => lhs; whnf
       · conv => lhs; whnf
       · first | rfl | assumption)
    | (apply s_guard_val rfl
       · conv => lhs; whnf
       · conv => lhs; whnf
       · conv => lhs; whnf; arg 2; whnf)
    | (apply s_guard_call rfl
       · conv => lhs; whnf
       · conv => lhs; whnf
       · conv => lhs; whnf
       · first | exact h1)
    | (apply aw_cond_t
       · conv => lhs; whnf; arg 1; arg 1; whnf)
    | (apply aw_cond_f
       · conv => lhs; whnf; arg 1; arg 1; whnf)
    | (refine aw_cond (by conv => lhs; whnf) ?_ ?_ <;> intro hb)
    | refine aw_ret ?_
    | refine aw_exit ?_
    | refine k_seq_exit ?_
    | refine k_seq_ret ?_
    | refine k_block_ret ?_
    | refine k_block_hit rfl ?_
    | refine k_block_miss rfl ?_
    | refine k_scope_exit ?_
    | refine k_scope_ret ?_
    | refine k_loop_exit ?_
    | refine k_loop_ret ?_
    | refine k_end ?_
    | refine k_end_ret ?_
    | (refine ⟨_, by conv => lhs; whnf; arg 2; whnf, ?_⟩; conv => rhs; whnf)
    | exact trivial
    | intro hg)
  all_goals try (exact (show Tryd.prog.underlying 4 = some .bool from Tryd.underlying4))
  all_goals try (simp only [beq_true, beq_false, beq_self_eq_true, Nat.zero_add, Nat.reduceAdd, Bool.not_eq_eq_eq_not, Bool.not_true, Bool.not_false, bne_iff_ne, ne_eq, bne_eq_false_iff_eq] at *)
  all_goals (first | (simp only [memEq, strEq, *, Bool.true_and, Bool.false_and, Bool.and_true, Bool.and_false]; done) | (simp_all [memEq, strEq]; done) | trace_state)
set_option maxRecDepth 100000 in
theorem sameDef_ac {K : Nat} (x y : D) (hx : Ok2 K 58 x) (hy : Ok2 K 58 y) : AC EN Tryd.prog 82 [.agg (cellsV Tryd.prog 12 58 x), .agg (cellsV Tryd.prog 12 58 y)] (.c (.bool (defEq K x y))) := by
  obtain ⟨a1, a2, a3, a4, a5⟩ := ok2_def hx
  obtain ⟨b1, b2, b3, b4, b5⟩ := ok2_def hy
  have h1 := eqStr_ac (x.f 2).l (y.f 2).l a1
  have h2 := sameDirs_ac (x.f 3).l (y.f 3).l a2 b2
  have h3 := sameFlds_ac (x.f 4).l (y.f 4).l a3 b3
  have h4 := sameIns_ac (x.f 6).l (y.f 6).l a5 b5
  have h5 := eqFMember_ac (x.f 5).l (y.f 5).l (memEq K) a4.len fun i hi hj => sameMem_ac _ _ (a4.at hi) (b4.at hj)
  refine ac_enter 52 Tryd.func82 rfl rfl rfl rfl ?_
  intro s w he
  repeat' (first
    | refine aw_seq ?_
    | refine aw_region ?_
    | refine awo_nil ?_
    | refine k_seq ?_
    | refine k_block ?_
    | refine k_scope ?_
    | refine aw_block ?_
    | refine aw_skip ?_
    | refine aw_label ?_
    | refine aw_scope ?_
    | (apply s_pick_t rfl rfl
       · conv => lhs; whnf
       · conv => lhs; whnf
       · first | exact bT1 (by assumption) | exact bT2 (by assumption))
    | (apply s_pick_f rfl rfl
       · conv => lhs; whnf
       · conv => lhs; whnf
       · first | exact bF1 (by assumption) | exact bF2 (by assumption))
    | (apply s_val rfl
       · conv => lhs; whnf
       · conv => lhs; whnf; arg 2; whnf)
    | (apply s_call rfl
       · conv => lhs; whnf
       · conv => lhs; whnf
       · first | exact h1 | exact h2 | exact h3 | exact h4 | exact h5)
    | (apply s_box rfl rfl rfl rfl
       · conv => lhs; whnf; arg 1; whnf
       · rfl)
    | (apply s_wanted_val rfl
       · conv => lhs; whnf
       · conv => lhs; whnf
       · first | rfl | assumption
       · conv => lhs; whnf; arg 2; whnf)
    | (apply s_wanted_call rfl
       · conv => lhs; whnf
       · conv => lhs; whnf
       · first | rfl | assumption
       · conv => lhs; whnf
       · first | exact h1 | exact h2 | exact h3 | exact h4 | exact h5)
    | (apply s_skip rfl
       · conv => lhs; whnf
       · conv => lhs; whnf
       · first | rfl | assumption)
    | (apply s_guard_val rfl
       · conv => lhs; whnf
       · conv => lhs; whnf
       · conv => lhs; whnf; arg 2; whnf)
    | (apply s_guard_call rfl
       · conv => lhs; whnf
       · conv => lhs; whnf
       · conv => lhs; whnf
       · first | exact h1 | exact h2 | exact h3 | exact h4 | exact h5)
    | (apply aw_cond_t
       · conv => lhs; whnf; arg 1; arg 1; whnf)
    | (apply aw_cond_f
       · conv => lhs; whnf; arg 1; arg 1; whnf)
    | (refine aw_cond (by conv => lhs; whnf) ?_ ?_ <;> intro hb)
    | refine aw_ret ?_
    | refine aw_exit ?_
    | refine k_seq_exit ?_
    | refine k_seq_ret ?_
    | refine k_block_ret ?_
    | refine k_block_hit rfl ?_
    | refine k_block_miss rfl ?_
    | refine k_scope_exit ?_
    | refine k_scope_ret ?_
    | refine k_loop_exit ?_
    | refine k_loop_ret ?_
    | refine k_end ?_
    | refine k_end_ret ?_
    | (refine ⟨_, by conv => lhs; whnf; arg 2; whnf, ?_⟩; conv => rhs; whnf)
    | exact trivial
    | intro hg)
  all_goals try (exact (show Tryd.prog.underlying 4 = some .bool from Tryd.underlying4))
  all_goals try (simp only [beq_true, beq_false, beq_self_eq_true, Nat.zero_add, Nat.reduceAdd, Bool.not_eq_eq_eq_not, Bool.not_true, Bool.not_false, bne_iff_ne, ne_eq, bne_eq_false_iff_eq] at *)
  all_goals (first | (simp only [defEq, strEq, *, Bool.true_and, Bool.false_and, Bool.and_true, Bool.and_false]; done) | (simp_all [defEq, strEq]; done) | trace_state)
set_option maxRecDepth 100000 in
theorem sameDoc_ac {K : Nat} (x y : D) (hx : Ok2 K 42 x) (hy : Ok2 K 42 y) : AC EN Tryd.prog 50 [.agg (cellsV Tryd.prog 12 42 x), .agg (cellsV Tryd.prog 12 42 y)] (.c (.bool (docEq K x y))) := by
  have qx := ok2_doc hx
  have qy := ok2_doc hy
  have h1 := eqFDef_ac (x.f 0).l (y.f 0).l (defEq K) qx.len fun i hi hj => sameDef_ac _ _ (qx.at hi) (qy.at hj)
  refine ac_enter 10 Tryd.func50 rfl rfl rfl rfl ?_
  intro s w he
  repeat' (first
    | refine aw_seq ?_
    | refine aw_region ?_
    | refine awo_nil ?_
    | refine k_seq ?_
    | refine k_block ?_
    | refine k_scope ?_
    | refine aw_block ?_
    | refine aw_skip ?_
    | refine aw_label ?_
    | refine aw_scope ?_
    | (apply s_val rfl
       · conv => lhs; whnf
       · conv => lhs; whnf; arg 2; whnf)
    | (apply s_call rfl
       · conv => lhs; whnf
       · conv => lhs; whnf
       · first | exact h1)
    | (apply s_box rfl rfl rfl rfl
       · conv => lhs; whnf; arg 1; whnf
       · rfl)
    | (apply aw_cond_t
       · conv => lhs; whnf; arg 1; arg 1; whnf)
    | (apply aw_cond_f
       · conv => lhs; whnf; arg 1; arg 1; whnf)
    | (refine aw_cond (by conv => lhs; whnf) ?_ ?_ <;> intro hb)
    | refine aw_ret ?_
    | refine aw_exit ?_
    | refine k_seq_exit ?_
    | refine k_seq_ret ?_
    | refine k_block_ret ?_
    | refine k_block_hit rfl ?_
    | refine k_block_miss rfl ?_
    | refine k_scope_exit ?_
    | refine k_scope_ret ?_
    | refine k_loop_exit ?_
    | refine k_loop_ret ?_
    | refine k_end ?_
    | refine k_end_ret ?_
    | (refine ⟨_, by conv => lhs; whnf; arg 2; whnf, ?_⟩; conv => rhs; whnf)
    | exact trivial
    | intro hg)
  all_goals try (exact (show Tryd.prog.underlying 4 = some .bool from Tryd.underlying4))
  all_goals try (simp only [beq_true, beq_false, beq_self_eq_true, Nat.zero_add, Nat.reduceAdd, Bool.not_eq_eq_eq_not, Bool.not_true, Bool.not_false, bne_iff_ne, ne_eq, bne_eq_false_iff_eq] at *)
  all_goals (first | (simp only [docEq, strEq, *, Bool.true_and, Bool.false_and, Bool.and_true, Bool.and_false]; done) | (simp_all [docEq, strEq]; done) | trace_state)
end Go.Proofs.YtohneabalakmeaaDoor
