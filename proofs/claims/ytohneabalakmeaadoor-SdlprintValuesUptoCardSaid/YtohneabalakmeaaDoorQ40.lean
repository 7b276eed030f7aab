/- Parts of a proof, merged by a program (shake.py). -/
import Derived.Test.YtohneabalakmeaaDoorQ39
namespace Go.Proofs.YtohneabalakmeaaDoor
open Go.RowKit
attribute [local irreducible] wpList Calls Code.wp AW AWo OpOk seqK blockK scopeK loopK endK AC absLex Yld Sub
def sumF (f : D → Nat) (l : List D) (i : Nat) : Nat := ((List.range i).map fun j => f (gD l j)).sum
set_option maxRecDepth 100000 in
theorem sumF_succ (f : D → Nat) (l : List D) (i : Nat) : sumF f l (i + 1) = sumF f l i + f (gD l i) := by
  unfold sumF
  rw [List.range_succ, List.map_append, List.sum_append]; simp
set_option maxRecDepth 100000 in
theorem sumF_le {f : D → Nat} {l : List D} (h : ∀ i, i < l.length → f (gD l i) ≤ bulkD (gD l i)) : ∀ i, i ≤ l.length → sumF f l i ≤ bulkL l := fun i hi => by
  rw [bulkL_range]
  exact Nat.le_trans (sum_range_le fun j hj => h j (by omega)) (sum_range_mono hi _)
def sizeF : Nat → D → Nat
  | 0, _ => 0
  | k + 1, d => 1 + sumF (sizeF k) (d.f 3).l (d.f 3).l.length
set_option maxRecDepth 100000 in
theorem val_items {k : Nat} {d : D} (h : Fits Tryd.prog (k + 1) 49 d) : (∀ i, i < (d.f 3).l.length → Fits Tryd.prog k 49 (gD (d.f 3).l i)) ∧ bulkL (d.f 3).l + 1 ≤ bulkD d ∧ (d.f 2).s.size + bulkL (d.f 3).l + bulkL (d.f 4).l + 6 ≤ bulkD d := by
  obtain ⟨x0, x1, x2, x3, x4, rfl, h3, -⟩ := fits49 h
  have hb : bulkD (D.obj [.int x0, .int x1, .str x2, .list x3, .list x4]) = x2.size + 5 + bulkL x3 + bulkL x4 + 1 := by simp [bulkD, bulkL]; omega
  refine ⟨fun i hi => ?_, ?_, ?_⟩
  · have hi : i < x3.length := hi
    have h4 := h3 i hi
    cases k with
    | zero => exact h4.elim
    | succ k => exact h4.up
  · show bulkL x3 + 1 ≤ _; omega
  · show x2.size + bulkL x3 + bulkL x4 + 6 ≤ _; omega
set_option maxRecDepth 100000 in
theorem sizeF_le : ∀ (k : Nat) (d : D), Fits Tryd.prog k 49 d → sizeF k d ≤ bulkD d
  | 0, d, h => h.elim
  | k + 1, d, h => by
    obtain ⟨h1, h2, -⟩ := val_items h
    have := sumF_le (f := sizeF k) (fun i hi => sizeF_le k _ (h1 i hi)) _ (Nat.le_refl _)
    unfold sizeF
    omega
noncomputable def HSize (k : Nat) (d : D) (i : Nat) : Vst 21 :=
  stS 21 [(1, .bx 1 0), (3, .c (.int .i64 ((1 + sumF (sizeF k) (d.f 3).l i : Nat) : Int))), (4, .c (.int .i64 i))] [(1, .box 49 (cellsV Tryd.prog 12 49 d))]
set_option maxRecDepth 100000 in
theorem size_ac : ∀ (k : Nat) (d : D), Fits Tryd.prog k 49 d → bulkD d ≤ 1048576 → AC EN Tryd.prog 39 [.agg (cellsV Tryd.prog 12 49 d)] (.c (.int .i64 (sizeF k d : Nat)))
  | 0, d, h, _ => h.elim
  | k + 1, d, h, hb => by
    obtain ⟨h1, h2, -⟩ := val_items h
    have hs := sumF_le (f := sizeF k) (fun i hi => sizeF_le k _ (h1 i hi))
    have ih := fun i (hi : i < (d.f 3).l.length) => size_ac k _ (h1 i hi) (by have := bulk_mem hi; omega)
    have hl := bulkL_len (d.f 3).l
    refine ac_enter 21 Tryd.func39 rfl rfl rfl rfl ?_
    intro s w he
    repeat' (first
    | refine aw_seq ?_
    | refine aw_region ?_
    | refine awo_nil ?_
    | refine k_seq ?_
    | refine k_block ?_
    | refine k_scope ?_
    | refine aw_block ?_
    | refine aw_skip ?_
    | refine aw_label ?_
    | refine aw_scope ?_
    | (apply s_val rfl
       · conv => lhs; whnf
       · conv => lhs; whnf; arg 2; whnf)
    | (apply s_call rfl
       · conv => lhs; whnf
       · conv => lhs; whnf
       · first | fail)
    | (apply s_box rfl rfl rfl rfl
       · conv => lhs; whnf; arg 1; whnf
       · rfl)
    | (apply aw_cond_t
       · conv => lhs; whnf; arg 1; arg 1; whnf)
    | (apply aw_cond_f
       · conv => lhs; whnf; arg 1; arg 1; whnf)
    | (refine aw_cond (by conv => lhs; whnf) ?_ ?_ <;> intro hb)
    | refine aw_ret ?_
    | refine aw_exit ?_
    | refine k_seq_exit ?_
    | refine k_seq_ret ?_
    | refine k_block_ret ?_
    | refine k_block_hit rfl ?_
    | refine k_block_miss rfl ?_
    | refine k_scope_exit ?_
    | refine k_scope_ret ?_
    | refine k_loop_exit ?_
    | refine k_loop_ret ?_
    | refine k_end ?_
    | refine k_end_ret ?_
    | (refine ⟨_, by conv => lhs; whnf; arg 2; whnf, ?_⟩; conv => rhs; whnf)
    | exact trivial
    | intro hg)
    refine aw_loop (fun j st => ∃ i, i + j = (d.f 3).l.length ∧ Sub (cx EN Tryd.prog s w he) st (HSize k d i)) (d.f 3).l.length ⟨0, by omega, ?_⟩ ?_
    · exact Sub.live ⟨rfl, rfl, rfl, trivial⟩ ⟨rfl, trivial⟩
    · rintro j st ⟨i, hij, hs2⟩
      refine aw_sub hs2 ?_
      have ih2 := fun (h : decide ((i : Int) < (d.f 3).l.length) = true) => ih i (by simpa using h)
      have hp := fun (h : decide ((i : Int) < (d.f 3).l.length) = true) => hs (i + 1) (by simp at h; omega)
      simp only [sumF_succ] at hp
      repeat' (first
    | refine aw_seq ?_
    | refine aw_region ?_
    | refine awo_nil ?_
    | refine k_seq ?_
    | refine k_block ?_
    | refine k_scope ?_
    | refine aw_block ?_
    | refine aw_skip ?_
    | refine aw_label ?_
    | refine aw_scope ?_
    | (apply s_val rfl
       · conv => lhs; whnf
       · conv => lhs; whnf; arg 2; whnf)
    | (apply s_call rfl
       · conv => lhs; whnf
       · conv => lhs; whnf
       · first | exact ih2 (by assumption))
    | (apply s_box rfl rfl rfl rfl
       · conv => lhs; whnf; arg 1; whnf
       · rfl)
    | (apply aw_cond_t
       · conv => lhs; whnf; arg 1; arg 1; whnf)
    | (apply aw_cond_f
       · conv => lhs; whnf; arg 1; arg 1; whnf)
    | (refine aw_cond (by conv => lhs; whnf) ?_ ?_ <;> intro hb)
    | refine aw_ret ?_
    | refine aw_exit ?_
    | refine k_seq_exit ?_
    | refine k_seq_ret ?_
    | refine k_block_ret ?_
    | refine k_block_hit rfl ?_
    | refine k_block_miss rfl ?_
    | refine k_scope_exit ?_
    | refine k_scope_ret ?_
    | refine k_loop_exit ?_
    | refine k_loop_ret ?_
    | refine k_end ?_
    | refine k_end_ret ?_
    | (refine ⟨_, by conv => lhs; whnf; arg 2; whnf, ?_⟩; conv => rhs; whnf)
    | exact trivial
    | intro hg)
      · refine k_loop_next (j' := j - 1) (by have h : decide ((i : Int) < (d.f 3).l.length) = true := by assumption
                                             simp at h; omega) ⟨i + 1, by have h : decide ((i : Int) < (d.f 3).l.length) = true := by assumption
                                                                          simp at h; omega, Sub.live ⟨rfl, ?_, rfl, trivial⟩ ⟨rfl, trivial⟩⟩
        show V.c (.int .i64 (((1 + sumF (sizeF k) (d.f 3).l i : Nat) : Int) + ((sizeF k (gD (d.f 3).l i) : Nat) : Int))) = _
        rw [sumF_succ]
        congr 2
        omega
      · exact i64_ok (by omega)
      · have := hp (by assumption)
        exact i64_ok (by omega)
      · have h : decide ((i : Int) < (d.f 3).l.length) = true := by assumption
        show 0 ≤ (i : Int) ∧ (i : Int) < (d.f 3).l.length
        simp at h; omega
      · have h : decide ((i : Int) < (d.f 3).l.length) = false := by assumption
        have e : i = (d.f 3).l.length := by simp at h; omega
        unfold sizeF
        rw [e]
end Go.Proofs.YtohneabalakmeaaDoor
