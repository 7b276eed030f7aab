/- Parts of a proof, merged by a program (shake.py). -/
import Derived.Test.YtohneabalakmeaaDoorDq42
namespace Go.Proofs.YtohneabalakmeaaDoor
open Go.RowKit
attribute [local irreducible] wpList Calls Code.wp AW AWo OpOk seqK blockK scopeK loopK endK AC absLex Yld Sub
def eqL (f : D → D → Bool) (l m : List D) : Bool := (l.length == m.length) && (List.range l.length).all fun i => f (gD l i) (gD m i)
set_option maxRecDepth 100000 in
theorem eqL_ne {f : D → D → Bool} {l m : List D} (h : ((l.length : Int) != (m.length : Int)) = true) : eqL f l m = false := by
  have : ¬ l.length = m.length := by simp at h; omega
  simp [eqL, this]
set_option maxRecDepth 100000 in
theorem eqL_len {l m : List D} (h : ((l.length : Int) != (m.length : Int)) = false) : l.length = m.length := by simp at h; omega
set_option maxRecDepth 100000 in
theorem eqL_bad {f : D → D → Bool} {l m : List D} {i : Nat} (hi : i < l.length) (h : f (gD l i) (gD m i) = false) : eqL f l m = false := by
  unfold eqL
  rw [Bool.and_eq_false_iff]
  right
  rw [List.all_eq_false]
  exact ⟨i, List.mem_range.2 hi, by simp [h]⟩
set_option maxRecDepth 100000 in
theorem eqL_all {f : D → D → Bool} {l m : List D} (hl : l.length = m.length) (h : ∀ i, i < l.length → f (gD l i) (gD m i) = true) : eqL f l m = true := by
  unfold eqL
  rw [Bool.and_eq_true, List.all_eq_true]
  exact ⟨by simp [hl], fun i hi => h i (List.mem_range.1 hi)⟩
def strEq (a b : D) : Bool := a.s.toList == b.s.toList
def intEq (a b : D) : Bool := a.n == b.n
noncomputable def HEqArg (l m : List D) (i : Nat) : Vst 32 :=
  stS 32 [(1, .sl 103 m), (2, .c (.func (.func 123) #[] #[])), (15, .sl 103 l), (16, .c (.int .i64 l.length)), (17, .c (.int .i64 i))] []
set_option maxRecDepth 100000 in
theorem eqFArg_ac (l m : List D) (f : D → D → Bool) (hn : l.length ≤ 100000000) (hg : ∀ i, i < l.length → i < m.length → AC EN Tryd.prog 123 [.agg (cellsV Tryd.prog 12 103 (gD l i)), .agg (cellsV Tryd.prog 12 103 (gD m i))] (.c (.bool (f (gD l i) (gD m i))))) :
    AC EN Tryd.prog 122 [.sl 103 l, .sl 103 m, .c (.func (.func 123) #[] #[])] (.c (.bool (eqL f l m))) := by
  refine ac_enter 32 Tryd.func122 rfl rfl rfl rfl ?_
  intro s w he
  repeat' (first
    | refine aw_seq ?_
    | refine aw_region ?_
    | refine awo_nil ?_
    | refine k_seq ?_
    | refine k_block ?_
    | refine k_scope ?_
    | refine aw_block ?_
    | refine aw_skip ?_
    | refine aw_label ?_
    | refine aw_scope ?_
    | (apply s_val rfl
       · conv => lhs; whnf
       · conv => lhs; whnf; arg 2; whnf)
    | (apply s_call rfl
       · conv => lhs; whnf
       · conv => lhs; whnf
       · first | fail)
    | (apply s_alloc rfl rfl rfl rfl
       · conv => lhs; whnf; arg 1; whnf
       · rfl)
    | (apply s_store rfl rfl rfl
       · conv => lhs; whnf
       · conv => lhs; whnf; arg 1; whnf
       · conv => lhs; whnf; arg 1; whnf
       · exact ⟨by kernel_rfl, by kernel_rfl⟩
       · rfl)
    | (apply aw_cond_t
       · conv => lhs; whnf; arg 1; arg 1; whnf)
    | (apply aw_cond_f
       · conv => lhs; whnf; arg 1; arg 1; whnf)
    | (refine aw_cond (by conv => lhs; whnf) ?_ ?_ <;> intro hb)
    | refine aw_ret ?_
    | refine aw_exit ?_
    | refine k_seq_exit ?_
    | refine k_seq_ret ?_
    | refine k_block_ret ?_
    | refine k_block_hit rfl ?_
    | refine k_block_miss rfl ?_
    | refine k_scope_exit ?_
    | refine k_scope_ret ?_
    | refine k_loop_exit ?_
    | refine k_loop_ret ?_
    | refine k_end ?_
    | refine k_end_ret ?_
    | (refine ⟨_, by conv => lhs; whnf; arg 2; whnf, ?_⟩; conv => rhs; whnf)
    | exact trivial
    | intro hg)
  · rw [eqL_ne (by assumption)]
  · have hlen : l.length = m.length := eqL_len (by assumption)
    refine aw_loop (fun j st => ∃ i, i + j = l.length ∧ (∀ q, q < i → f (gD l q) (gD m q) = true) ∧ Sub (cx EN Tryd.prog s w he) st (HEqArg l m i)) l.length ⟨0, by omega, fun q hq => by omega, ?_⟩ ?_
    · exact Sub.live ⟨rfl, rfl, rfl, rfl, rfl, trivial⟩ trivial
    · rintro j st ⟨i, hij, hall, hs2⟩
      refine aw_sub hs2 ?_
      have hg2 := fun (h : decide ((i : Int) < (l.length : Int)) = true) => hg i (by simpa using h) (by rw [← hlen]; simpa using h)
      repeat' (first
    | refine aw_seq ?_
    | refine aw_region ?_
    | refine awo_nil ?_
    | refine k_seq ?_
    | refine k_block ?_
    | refine k_scope ?_
    | refine aw_block ?_
    | refine aw_skip ?_
    | refine aw_label ?_
    | refine aw_scope ?_
    | (apply s_val rfl
       · conv => lhs; whnf
       · conv => lhs; whnf; arg 2; whnf)
    | (apply s_call rfl
       · conv => lhs; whnf
       · conv => lhs; whnf
       · first | exact hg2 (by assumption))
    | (apply s_alloc rfl rfl rfl rfl
       · conv => lhs; whnf; arg 1; whnf
       · rfl)
    | (apply s_store rfl rfl rfl
       · conv => lhs; whnf
       · conv => lhs; whnf; arg 1; whnf
       · conv => lhs; whnf; arg 1; whnf
       · exact ⟨by kernel_rfl, by kernel_rfl⟩
       · rfl)
    | (apply aw_cond_t
       · conv => lhs; whnf; arg 1; arg 1; whnf)
    | (apply aw_cond_f
       · conv => lhs; whnf; arg 1; arg 1; whnf)
    | (refine aw_cond (by conv => lhs; whnf) ?_ ?_ <;> intro hb)
    | refine aw_ret ?_
    | refine aw_exit ?_
    | refine k_seq_exit ?_
    | refine k_seq_ret ?_
    | refine k_block_ret ?_
    | refine k_block_hit rfl ?_
    | refine k_block_miss rfl ?_
    | refine k_scope_exit ?_
    | refine k_scope_ret ?_
    | refine k_loop_exit ?_
    | refine k_loop_ret ?_
    | refine k_end ?_
    | refine k_end_ret ?_
    | (refine ⟨_, by conv => lhs; whnf; arg 2; whnf, ?_⟩; conv => rhs; whnf)
    | exact trivial
    | intro hg)
      · have hlt : i < l.length := by have h : decide ((i : Int) < (l.length : Int)) = true := by assumption
                                      simpa using h
        have hf : (!f (gD l i) (gD m i)) = true := by assumption
        rw [eqL_bad hlt (by simpa using hf)]
      · have hf : (!f (gD l i) (gD m i)) = false := by assumption
        have hlt : i < l.length := by have h : decide ((i : Int) < (l.length : Int)) = true := by assumption
                                      simpa using h
        refine k_loop_next (j' := j - 1) (by omega) ⟨i + 1, by omega, fun q hq => ?_, Sub.live ⟨rfl, rfl, rfl, rfl, rfl, trivial⟩ trivial⟩
        by_cases e : q = i
        · subst e; simpa using hf
        · exact hall q (by omega)
      · exact i64_ok (by omega)
      · have h : decide ((i : Int) < (l.length : Int)) = true := by assumption
        simp at h; omega
      · have h : decide ((i : Int) < (l.length : Int)) = true := by assumption
        simp at h; omega
      · have h : decide ((i : Int) < (l.length : Int)) = false := by assumption
        simp at h
        rw [eqL_all hlen fun q hq => hall q (by omega)]
noncomputable def HEqDir (l m : List D) (i : Nat) : Vst 32 :=
  stS 32 [(1, .sl 101 m), (2, .c (.func (.func 121) #[] #[])), (15, .sl 101 l), (16, .c (.int .i64 l.length)), (17, .c (.int .i64 i))] []
set_option maxRecDepth 100000 in
theorem eqFDir_ac (l m : List D) (f : D → D → Bool) (hn : l.length ≤ 100000000) (hg : ∀ i, i < l.length → i < m.length → AC EN Tryd.prog 121 [.agg (cellsV Tryd.prog 12 101 (gD l i)), .agg (cellsV Tryd.prog 12 101 (gD m i))] (.c (.bool (f (gD l i) (gD m i))))) :
    AC EN Tryd.prog 120 [.sl 101 l, .sl 101 m, .c (.func (.func 121) #[] #[])] (.c (.bool (eqL f l m))) := by
  refine ac_enter 32 Tryd.func120 rfl rfl rfl rfl ?_
  intro s w he
  repeat' (first
    | refine aw_seq ?_
    | refine aw_region ?_
    | refine awo_nil ?_
    | refine k_seq ?_
    | refine k_block ?_
    | refine k_scope ?_
    | refine aw_block ?_
    | refine aw_skip ?_
    | refine aw_label ?_
    | refine aw_scope ?_
    | (apply s_val rfl
       · conv => lhs; whnf
       · conv => lhs; whnf; arg 2; whnf)
    | (apply s_call rfl
       · conv => lhs; whnf
       · conv => lhs; whnf
       · first | fail)
    | (apply s_alloc rfl rfl rfl rfl
       · conv => lhs; whnf; arg 1; whnf
       · rfl)
    | (apply s_store rfl rfl rfl
       · conv => lhs; whnf
       · conv => lhs; whnf; arg 1; whnf
       · conv => lhs; whnf; arg 1; whnf
       · exact ⟨by kernel_rfl, by kernel_rfl⟩
       · rfl)
    | (apply aw_cond_t
       · conv => lhs; whnf; arg 1; arg 1; whnf)
    | (apply aw_cond_f
       · conv => lhs; whnf; arg 1; arg 1; whnf)
    | (refine aw_cond (by conv => lhs; whnf) ?_ ?_ <;> intro hb)
    | refine aw_ret ?_
    | refine aw_exit ?_
    | refine k_seq_exit ?_
    | refine k_seq_ret ?_
    | refine k_block_ret ?_
    | refine k_block_hit rfl ?_
    | refine k_block_miss rfl ?_
    | refine k_scope_exit ?_
    | refine k_scope_ret ?_
    | refine k_loop_exit ?_
    | refine k_loop_ret ?_
    | refine k_end ?_
    | refine k_end_ret ?_
    | (refine ⟨_, by conv => lhs; whnf; arg 2; whnf, ?_⟩; conv => rhs; whnf)
    | exact trivial
    | intro hg)
  · rw [eqL_ne (by assumption)]
  · have hlen : l.length = m.length := eqL_len (by assumption)
    refine aw_loop (fun j st => ∃ i, i + j = l.length ∧ (∀ q, q < i → f (gD l q) (gD m q) = true) ∧ Sub (cx EN Tryd.prog s w he) st (HEqDir l m i)) l.length ⟨0, by omega, fun q hq => by omega, ?_⟩ ?_
    · exact Sub.live ⟨rfl, rfl, rfl, rfl, rfl, trivial⟩ trivial
    · rintro j st ⟨i, hij, hall, hs2⟩
      refine aw_sub hs2 ?_
      have hg2 := fun (h : decide ((i : Int) < (l.length : Int)) = true) => hg i (by simpa using h) (by rw [← hlen]; simpa using h)
      repeat' (first
    | refine aw_seq ?_
    | refine aw_region ?_
    | refine awo_nil ?_
    | refine k_seq ?_
    | refine k_block ?_
    | refine k_scope ?_
    | refine aw_block ?_
    | refine aw_skip ?_
    | refine aw_label ?_
    | refine aw_scope ?_
    | (apply s_val rfl
       · conv => lhs; whnf
       · conv => lhs; whnf; arg 2; whnf)
    | (apply s_call rfl
       · conv => lhs; whnf
       · conv => lhs; whnf
       · first | exact hg2 (by assumption))
    | (apply s_alloc rfl rfl rfl rfl
       · conv => lhs; whnf; arg 1; whnf
       · rfl)
    | (apply s_store rfl rfl rfl
       · conv => lhs; whnf
       · conv => lhs; whnf; arg 1; whnf
       · conv => lhs; whnf; arg 1; whnf
       · exact ⟨by kernel_rfl, by kernel_rfl⟩
       · rfl)
    | (apply aw_cond_t
       · conv => lhs; whnf; arg 1; arg 1; whnf)
    | (apply aw_cond_f
       · conv => lhs; whnf; arg 1; arg 1; whnf)
    | (refine aw_cond (by conv => lhs; whnf) ?_ ?_ <;> intro hb)
    | refine aw_ret ?_
    | refine aw_exit ?_
    | refine k_seq_exit ?_
    | refine k_seq_ret ?_
    | refine k_block_ret ?_
    | refine k_block_hit rfl ?_
    | refine k_block_miss rfl ?_
    | refine k_scope_exit ?_
    | refine k_scope_ret ?_
    | refine k_loop_exit ?_
    | refine k_loop_ret ?_
    | refine k_end ?_
    | refine k_end_ret ?_
    | (refine ⟨_, by conv => lhs; whnf; arg 2; whnf, ?_⟩; conv => rhs; whnf)
    | exact trivial
    | intro hg)
      · have hlt : i < l.length := by have h : decide ((i : Int) < (l.length : Int)) = true := by assumption
                                      simpa using h
        have hf : (!f (gD l i) (gD m i)) = true := by assumption
        rw [eqL_bad hlt (by simpa using hf)]
      · have hf : (!f (gD l i) (gD m i)) = false := by assumption
        have hlt : i < l.length := by have h : decide ((i : Int) < (l.length : Int)) = true := by assumption
                                      simpa using h
        refine k_loop_next (j' := j - 1) (by omega) ⟨i + 1, by omega, fun q hq => ?_, Sub.live ⟨rfl, rfl, rfl, rfl, rfl, trivial⟩ trivial⟩
        by_cases e : q = i
        · subst e; simpa using hf
        · exact hall q (by omega)
      · exact i64_ok (by omega)
      · have h : decide ((i : Int) < (l.length : Int)) = true := by assumption
        simp at h; omega
      · have h : decide ((i : Int) < (l.length : Int)) = true := by assumption
        simp at h; omega
      · have h : decide ((i : Int) < (l.length : Int)) = false := by assumption
        simp at h
        rw [eqL_all hlen fun q hq => hall q (by omega)]
noncomputable def HEqInput (l m : List D) (i : Nat) : Vst 32 :=
  stS 32 [(1, .sl 132 m), (2, .c (.func (.func 129) #[] #[])), (15, .sl 132 l), (16, .c (.int .i64 l.length)), (17, .c (.int .i64 i))] []
set_option maxRecDepth 100000 in
theorem eqFInput_ac (l m : List D) (f : D → D → Bool) (hn : l.length ≤ 100000000) (hg : ∀ i, i < l.length → i < m.length → AC EN Tryd.prog 129 [.agg (cellsV Tryd.prog 12 132 (gD l i)), .agg (cellsV Tryd.prog 12 132 (gD m i))] (.c (.bool (f (gD l i) (gD m i))))) :
    AC EN Tryd.prog 128 [.sl 132 l, .sl 132 m, .c (.func (.func 129) #[] #[])] (.c (.bool (eqL f l m))) := by
  refine ac_enter 32 Tryd.func128 rfl rfl rfl rfl ?_
  intro s w he
  repeat' (first
    | refine aw_seq ?_
    | refine aw_region ?_
    | refine awo_nil ?_
    | refine k_seq ?_
    | refine k_block ?_
    | refine k_scope ?_
    | refine aw_block ?_
    | refine aw_skip ?_
    | refine aw_label ?_
    | refine aw_scope ?_
    | (apply s_val rfl
       · conv => lhs; whnf
       · conv => lhs; whnf; arg 2; whnf)
    | (apply s_call rfl
       · conv => lhs; whnf
       · conv => lhs; whnf
       · first | fail)
    | (apply s_alloc rfl rfl rfl rfl
       · conv => lhs; whnf; arg 1; whnf
       · rfl)
    | (apply s_store rfl rfl rfl
       · conv => lhs; whnf
       · conv => lhs; whnf; arg 1; whnf
       · conv => lhs; whnf; arg 1; whnf
       · exact ⟨by kernel_rfl, by kernel_rfl⟩
       · rfl)
    | (apply aw_cond_t
       · conv => lhs; whnf; arg 1; arg 1; whnf)
    | (apply aw_cond_f
       · conv => lhs; whnf; arg 1; arg 1; whnf)
    | (refine aw_cond (by conv => lhs; whnf) ?_ ?_ <;> intro hb)
    | refine aw_ret ?_
    | refine aw_exit ?_
    | refine k_seq_exit ?_
    | refine k_seq_ret ?_
    | refine k_block_ret ?_
    | refine k_block_hit rfl ?_
    | refine k_block_miss rfl ?_
    | refine k_scope_exit ?_
    | refine k_scope_ret ?_
    | refine k_loop_exit ?_
    | refine k_loop_ret ?_
    | refine k_end ?_
    | refine k_end_ret ?_
    | (refine ⟨_, by conv => lhs; whnf; arg 2; whnf, ?_⟩; conv => rhs; whnf)
    | exact trivial
    | intro hg)
  · rw [eqL_ne (by assumption)]
  · have hlen : l.length = m.length := eqL_len (by assumption)
    refine aw_loop (fun j st => ∃ i, i + j = l.length ∧ (∀ q, q < i → f (gD l q) (gD m q) = true) ∧ Sub (cx EN Tryd.prog s w he) st (HEqInput l m i)) l.length ⟨0, by omega, fun q hq => by omega, ?_⟩ ?_
    · exact Sub.live ⟨rfl, rfl, rfl, rfl, rfl, trivial⟩ trivial
    · rintro j st ⟨i, hij, hall, hs2⟩
      refine aw_sub hs2 ?_
      have hg2 := fun (h : decide ((i : Int) < (l.length : Int)) = true) => hg i (by simpa using h) (by rw [← hlen]; simpa using h)
      repeat' (first
    | refine aw_seq ?_
    | refine aw_region ?_
    | refine awo_nil ?_
    | refine k_seq ?_
    | refine k_block ?_
    | refine k_scope ?_
    | refine aw_block ?_
    | refine aw_skip ?_
    | refine aw_label ?_
    | refine aw_scope ?_
    | (apply s_val rfl
       · conv => lhs; whnf
       · conv => lhs; whnf; arg 2; whnf)
    | (apply s_call rfl
       · conv => lhs; whnf
       · conv => lhs; whnf
       · first | exact hg2 (by assumption))
    | (apply s_alloc rfl rfl rfl rfl
       · conv => lhs; whnf; arg 1; whnf
       · rfl)
    | (apply s_store rfl rfl rfl
       · conv => lhs; whnf
       · conv => lhs; whnf; arg 1; whnf
       · conv => lhs; whnf; arg 1; whnf
       · exact ⟨by kernel_rfl, by kernel_rfl⟩
       · rfl)
    | (apply aw_cond_t
       · conv => lhs; whnf; arg 1; arg 1; whnf)
    | (apply aw_cond_f
       · conv => lhs; whnf; arg 1; arg 1; whnf)
    | (refine aw_cond (by conv => lhs; whnf) ?_ ?_ <;> intro hb)
    | refine aw_ret ?_
    | refine aw_exit ?_
    | refine k_seq_exit ?_
    | refine k_seq_ret ?_
    | refine k_block_ret ?_
    | refine k_block_hit rfl ?_
    | refine k_block_miss rfl ?_
    | refine k_scope_exit ?_
    | refine k_scope_ret ?_
    | refine k_loop_exit ?_
    | refine k_loop_ret ?_
    | refine k_end ?_
    | refine k_end_ret ?_
    | (refine ⟨_, by conv => lhs; whnf; arg 2; whnf, ?_⟩; conv => rhs; whnf)
    | exact trivial
    | intro hg)
      · have hlt : i < l.length := by have h : decide ((i : Int) < (l.length : Int)) = true := by assumption
                                      simpa using h
        have hf : (!f (gD l i) (gD m i)) = true := by assumption
        rw [eqL_bad hlt (by simpa using hf)]
      · have hf : (!f (gD l i) (gD m i)) = false := by assumption
        have hlt : i < l.length := by have h : decide ((i : Int) < (l.length : Int)) = true := by assumption
                                      simpa using h
        refine k_loop_next (j' := j - 1) (by omega) ⟨i + 1, by omega, fun q hq => ?_, Sub.live ⟨rfl, rfl, rfl, rfl, rfl, trivial⟩ trivial⟩
        by_cases e : q = i
        · subst e; simpa using hf
        · exact hall q (by omega)
      · exact i64_ok (by omega)
      · have h : decide ((i : Int) < (l.length : Int)) = true := by assumption
        simp at h; omega
      · have h : decide ((i : Int) < (l.length : Int)) = true := by assumption
        simp at h; omega
      · have h : decide ((i : Int) < (l.length : Int)) = false := by assumption
        simp at h
        rw [eqL_all hlen fun q hq => hall q (by omega)]
noncomputable def HEqField (l m : List D) (i : Nat) : Vst 32 :=
  stS 32 [(1, .sl 64 m), (2, .c (.func (.func 126) #[] #[])), (15, .sl 64 l), (16, .c (.int .i64 l.length)), (17, .c (.int .i64 i))] []
set_option maxRecDepth 100000 in
theorem eqFField_ac (l m : List D) (f : D → D → Bool) (hn : l.length ≤ 100000000) (hg : ∀ i, i < l.length → i < m.length → AC EN Tryd.prog 126 [.agg (cellsV Tryd.prog 12 64 (gD l i)), .agg (cellsV Tryd.prog 12 64 (gD m i))] (.c (.bool (f (gD l i) (gD m i))))) :
    AC EN Tryd.prog 125 [.sl 64 l, .sl 64 m, .c (.func (.func 126) #[] #[])] (.c (.bool (eqL f l m))) := by
  refine ac_enter 32 Tryd.func125 rfl rfl rfl rfl ?_
  intro s w he
  repeat' (first
    | refine aw_seq ?_
    | refine aw_region ?_
    | refine awo_nil ?_
    | refine k_seq ?_
    | refine k_block ?_
    | refine k_scope ?_
    | refine aw_block ?_
    | refine aw_skip ?_
    | refine aw_label ?_
    | refine aw_scope ?_
    | (apply s_val rfl
       · conv => lhs; whnf
       · conv => lhs; whnf; arg 2; whnf)
    | (apply s_call rfl
       · conv => lhs; whnf
       · conv => lhs; whnf
       · first | fail)
    | (apply s_alloc rfl rfl rfl rfl
       · conv => lhs; whnf; arg 1; whnf
       · rfl)
    | (apply s_store rfl rfl rfl
       · conv => lhs; whnf
       · conv => lhs; whnf; arg 1; whnf
       · conv => lhs; whnf; arg 1; whnf
       · exact ⟨by kernel_rfl, by kernel_rfl⟩
       · rfl)
    | (apply aw_cond_t
       · conv => lhs; whnf; arg 1; arg 1; whnf)
    | (apply aw_cond_f
       · conv => lhs; whnf; arg 1; arg 1; whnf)
    | (refine aw_cond (by conv => lhs; whnf) ?_ ?_ <;> intro hb)
    | refine aw_ret ?_
    | refine aw_exit ?_
    | refine k_seq_exit ?_
    | refine k_seq_ret ?_
    | refine k_block_ret ?_
    | refine k_block_hit rfl ?_
    | refine k_block_miss rfl ?_
    | refine k_scope_exit ?_
    | refine k_scope_ret ?_
    | refine k_loop_exit ?_
    | refine k_loop_ret ?_
    | refine k_end ?_
    | refine k_end_ret ?_
    | (refine ⟨_, by conv => lhs; whnf; arg 2; whnf, ?_⟩; conv => rhs; whnf)
    | exact trivial
    | intro hg)
  · rw [eqL_ne (by assumption)]
  · have hlen : l.length = m.length := eqL_len (by assumption)
    refine aw_loop (fun j st => ∃ i, i + j = l.length ∧ (∀ q, q < i → f (gD l q) (gD m q) = true) ∧ Sub (cx EN Tryd.prog s w he) st (HEqField l m i)) l.length ⟨0, by omega, fun q hq => by omega, ?_⟩ ?_
    · exact Sub.live ⟨rfl, rfl, rfl, rfl, rfl, trivial⟩ trivial
    · rintro j st ⟨i, hij, hall, hs2⟩
      refine aw_sub hs2 ?_
      have hg2 := fun (h : decide ((i : Int) < (l.length : Int)) = true) => hg i (by simpa using h) (by rw [← hlen]; simpa using h)
      repeat' (first
    | refine aw_seq ?_
    | refine aw_region ?_
    | refine awo_nil ?_
    | refine k_seq ?_
    | refine k_block ?_
    | refine k_scope ?_
    | refine aw_block ?_
    | refine aw_skip ?_
    | refine aw_label ?_
    | refine aw_scope ?_
    | (apply s_val rfl
       · conv => lhs; whnf
       · conv => lhs; whnf; arg 2; whnf)
    | (apply s_call rfl
       · conv => lhs; whnf
       · conv => lhs; whnf
       · first | exact hg2 (by assumption))
    | (apply s_alloc rfl rfl rfl rfl
       · conv => lhs; whnf; arg 1; whnf
       · rfl)
    | (apply s_store rfl rfl rfl
       · conv => lhs; whnf
       · conv => lhs; whnf; arg 1; whnf
       · conv => lhs; whnf; arg 1; whnf
       · exact ⟨by kernel_rfl, by kernel_rfl⟩
       · rfl)
    | (apply aw_cond_t
       · conv => lhs; whnf; arg 1; arg 1; whnf)
    | (apply aw_cond_f
       · conv => lhs; whnf; arg 1; arg 1; whnf)
    | (refine aw_cond (by conv => lhs; whnf) ?_ ?_ <;> intro hb)
    | refine aw_ret ?_
    | refine aw_exit ?_
    | refine k_seq_exit ?_
    | refine k_seq_ret ?_
    | refine k_block_ret ?_
    | refine k_block_hit rfl ?_
    | refine k_block_miss rfl ?_
    | refine k_scope_exit ?_
    | refine k_scope_ret ?_
    | refine k_loop_exit ?_
    | refine k_loop_ret ?_
    | refine k_end ?_
    | refine k_end_ret ?_
    | (refine ⟨_, by conv => lhs; whnf; arg 2; whnf, ?_⟩; conv => rhs; whnf)
    | exact trivial
    | intro hg)
      · have hlt : i < l.length := by have h : decide ((i : Int) < (l.length : Int)) = true := by assumption
                                      simpa using h
        have hf : (!f (gD l i) (gD m i)) = true := by assumption
        rw [eqL_bad hlt (by simpa using hf)]
      · have hf : (!f (gD l i) (gD m i)) = false := by assumption
        have hlt : i < l.length := by have h : decide ((i : Int) < (l.length : Int)) = true := by assumption
                                      simpa using h
        refine k_loop_next (j' := j - 1) (by omega) ⟨i + 1, by omega, fun q hq => ?_, Sub.live ⟨rfl, rfl, rfl, rfl, rfl, trivial⟩ trivial⟩
        by_cases e : q = i
        · subst e; simpa using hf
        · exact hall q (by omega)
      · exact i64_ok (by omega)
      · have h : decide ((i : Int) < (l.length : Int)) = true := by assumption
        simp at h; omega
      · have h : decide ((i : Int) < (l.length : Int)) = true := by assumption
        simp at h; omega
      · have h : decide ((i : Int) < (l.length : Int)) = false := by assumption
        simp at h
        rw [eqL_all hlen fun q hq => hall q (by omega)]
noncomputable def HEqMember (l m : List D) (i : Nat) : Vst 32 :=
  stS 32 [(1, .sl 112 m), (2, .c (.func (.func 88) #[] #[])), (15, .sl 112 l), (16, .c (.int .i64 l.length)), (17, .c (.int .i64 i))] []
set_option maxRecDepth 100000 in
theorem eqFMember_ac (l m : List D) (f : D → D → Bool) (hn : l.length ≤ 100000000) (hg : ∀ i, i < l.length → i < m.length → AC EN Tryd.prog 88 [.agg (cellsV Tryd.prog 12 112 (gD l i)), .agg (cellsV Tryd.prog 12 112 (gD m i))] (.c (.bool (f (gD l i) (gD m i))))) :
    AC EN Tryd.prog 87 [.sl 112 l, .sl 112 m, .c (.func (.func 88) #[] #[])] (.c (.bool (eqL f l m))) := by
  refine ac_enter 32 Tryd.func87 rfl rfl rfl rfl ?_
  intro s w he
  repeat' (first
    | refine aw_seq ?_
    | refine aw_region ?_
    | refine awo_nil ?_
    | refine k_seq ?_
    | refine k_block ?_
    | refine k_scope ?_
    | refine aw_block ?_
    | refine aw_skip ?_
    | refine aw_label ?_
    | refine aw_scope ?_
    | (apply s_val rfl
       · conv => lhs; whnf
       · conv => lhs; whnf; arg 2; whnf)
    | (apply s_call rfl
       · conv => lhs; whnf
       · conv => lhs; whnf
       · first | fail)
    | (apply s_alloc rfl rfl rfl rfl
       · conv => lhs; whnf; arg 1; whnf
       · rfl)
    | (apply s_store rfl rfl rfl
       · conv => lhs; whnf
       · conv => lhs; whnf; arg 1; whnf
       · conv => lhs; whnf; arg 1; whnf
       · exact ⟨by kernel_rfl, by kernel_rfl⟩
       · rfl)
    | (apply aw_cond_t
       · conv => lhs; whnf; arg 1; arg 1; whnf)
    | (apply aw_cond_f
       · conv => lhs; whnf; arg 1; arg 1; whnf)
    | (refine aw_cond (by conv => lhs; whnf) ?_ ?_ <;> intro hb)
    | refine aw_ret ?_
    | refine aw_exit ?_
    | refine k_seq_exit ?_
    | refine k_seq_ret ?_
    | refine k_block_ret ?_
    | refine k_block_hit rfl ?_
    | refine k_block_miss rfl ?_
    | refine k_scope_exit ?_
    | refine k_scope_ret ?_
    | refine k_loop_exit ?_
    | refine k_loop_ret ?_
    | refine k_end ?_
    | refine k_end_ret ?_
    | (refine ⟨_, by conv => lhs; whnf; arg 2; whnf, ?_⟩; conv => rhs; whnf)
    | exact trivial
    | intro hg)
  · rw [eqL_ne (by assumption)]
  · have hlen : l.length = m.length := eqL_len (by assumption)
    refine aw_loop (fun j st => ∃ i, i + j = l.length ∧ (∀ q, q < i → f (gD l q) (gD m q) = true) ∧ Sub (cx EN Tryd.prog s w he) st (HEqMember l m i)) l.length ⟨0, by omega, fun q hq => by omega, ?_⟩ ?_
    · exact Sub.live ⟨rfl, rfl, rfl, rfl, rfl, trivial⟩ trivial
    · rintro j st ⟨i, hij, hall, hs2⟩
      refine aw_sub hs2 ?_
      have hg2 := fun (h : decide ((i : Int) < (l.length : Int)) = true) => hg i (by simpa using h) (by rw [← hlen]; simpa using h)
      repeat' (first
    | refine aw_seq ?_
    | refine aw_region ?_
    | refine awo_nil ?_
    | refine k_seq ?_
    | refine k_block ?_
    | refine k_scope ?_
    | refine aw_block ?_
    | refine aw_skip ?_
    | refine aw_label ?_
    | refine aw_scope ?_
    | (apply s_val rfl
       · conv => lhs; whnf
       · conv => lhs; whnf; arg 2; whnf)
    | (apply s_call rfl
       · conv => lhs; whnf
       · conv => lhs; whnf
       · first | exact hg2 (by assumption))
    | (apply s_alloc rfl rfl rfl rfl
       · conv => lhs; whnf; arg 1; whnf
       · rfl)
    | (apply s_store rfl rfl rfl
       · conv => lhs; whnf
       · conv => lhs; whnf; arg 1; whnf
       · conv => lhs; whnf; arg 1; whnf
       · exact ⟨by kernel_rfl, by kernel_rfl⟩
       · rfl)
    | (apply aw_cond_t
       · conv => lhs; whnf; arg 1; arg 1; whnf)
    | (apply aw_cond_f
       · conv => lhs; whnf; arg 1; arg 1; whnf)
    | (refine aw_cond (by conv => lhs; whnf) ?_ ?_ <;> intro hb)
    | refine aw_ret ?_
    | refine aw_exit ?_
    | refine k_seq_exit ?_
    | refine k_seq_ret ?_
    | refine k_block_ret ?_
    | refine k_block_hit rfl ?_
    | refine k_block_miss rfl ?_
    | refine k_scope_exit ?_
    | refine k_scope_ret ?_
    | refine k_loop_exit ?_
    | refine k_loop_ret ?_
    | refine k_end ?_
    | refine k_end_ret ?_
    | (refine ⟨_, by conv => lhs; whnf; arg 2; whnf, ?_⟩; conv => rhs; whnf)
    | exact trivial
    | intro hg)
      · have hlt : i < l.length := by have h : decide ((i : Int) < (l.length : Int)) = true := by assumption
                                      simpa using h
        have hf : (!f (gD l i) (gD m i)) = true := by assumption
        rw [eqL_bad hlt (by simpa using hf)]
      · have hf : (!f (gD l i) (gD m i)) = false := by assumption
        have hlt : i < l.length := by have h : decide ((i : Int) < (l.length : Int)) = true := by assumption
                                      simpa using h
        refine k_loop_next (j' := j - 1) (by omega) ⟨i + 1, by omega, fun q hq => ?_, Sub.live ⟨rfl, rfl, rfl, rfl, rfl, trivial⟩ trivial⟩
        by_cases e : q = i
        · subst e; simpa using hf
        · exact hall q (by omega)
      · exact i64_ok (by omega)
      · have h : decide ((i : Int) < (l.length : Int)) = true := by assumption
        simp at h; omega
      · have h : decide ((i : Int) < (l.length : Int)) = true := by assumption
        simp at h; omega
      · have h : decide ((i : Int) < (l.length : Int)) = false := by assumption
        simp at h
        rw [eqL_all hlen fun q hq => hall q (by omega)]
noncomputable def HEqDef (l m : List D) (i : Nat) : Vst 32 :=
  stS 32 [(1, .sl 58 m), (2, .c (.func (.func 82) #[] #[])), (15, .sl 58 l), (16, .c (.int .i64 l.length)), (17, .c (.int .i64 i))] []
set_option maxRecDepth 100000 in
theorem eqFDef_ac (l m : List D) (f : D → D → Bool) (hn : l.length ≤ 100000000) (hg : ∀ i, i < l.length → i < m.length → AC EN Tryd.prog 82 [.agg (cellsV Tryd.prog 12 58 (gD l i)), .agg (cellsV Tryd.prog 12 58 (gD m i))] (.c (.bool (f (gD l i) (gD m i))))) :
    AC EN Tryd.prog 81 [.sl 58 l, .sl 58 m, .c (.func (.func 82) #[] #[])] (.c (.bool (eqL f l m))) := by
  refine ac_enter 32 Tryd.func81 rfl rfl rfl rfl ?_
  intro s w he
  repeat' (first
    | refine aw_seq ?_
    | refine aw_region ?_
    | refine awo_nil ?_
    | refine k_seq ?_
    | refine k_block ?_
    | refine k_scope ?_
    | refine aw_block ?_
    | refine aw_skip ?_
    | refine aw_label ?_
    | refine aw_scope ?_
    | (apply s_val rfl
       · conv => lhs; whnf
       · conv => lhs; whnf; arg 2; whnf)
    | (apply s_call rfl
       · conv => lhs; whnf
       · conv => lhs; whnf
       · first | fail)
    | (apply s_alloc rfl rfl rfl rfl
       · conv => lhs; whnf; arg 1; whnf
       · rfl)
    | (apply s_store rfl rfl rfl
       · conv => lhs; whnf
       · conv => lhs; whnf; arg 1; whnf
       · conv => lhs; whnf; arg 1; whnf
       · exact ⟨by kernel_rfl, by kernel_rfl⟩
       · rfl)
    | (apply aw_cond_t
       · conv => lhs; whnf; arg 1; arg 1; whnf)
    | (apply aw_cond_f
       · conv => lhs; whnf; arg 1; arg 1; whnf)
    | (refine aw_cond (by conv => lhs; whnf) ?_ ?_ <;> intro hb)
    | refine aw_ret ?_
    | refine aw_exit ?_
    | refine k_seq_exit ?_
    | refine k_seq_ret ?_
    | refine k_block_ret ?_
    | refine k_block_hit rfl ?_
    | refine k_block_miss rfl ?_
    | refine k_scope_exit ?_
    | refine k_scope_ret ?_
    | refine k_loop_exit ?_
    | refine k_loop_ret ?_
    | refine k_end ?_
    | refine k_end_ret ?_
    | (refine ⟨_, by conv => lhs; whnf; arg 2; whnf, ?_⟩; conv => rhs; whnf)
    | exact trivial
    | intro hg)
  · rw [eqL_ne (by assumption)]
  · have hlen : l.length = m.length := eqL_len (by assumption)
    refine aw_loop (fun j st => ∃ i, i + j = l.length ∧ (∀ q, q < i → f (gD l q) (gD m q) = true) ∧ Sub (cx EN Tryd.prog s w he) st (HEqDef l m i)) l.length ⟨0, by omega, fun q hq => by omega, ?_⟩ ?_
    · exact Sub.live ⟨rfl, rfl, rfl, rfl, rfl, trivial⟩ trivial
    · rintro j st ⟨i, hij, hall, hs2⟩
      refine aw_sub hs2 ?_
      have hg2 := fun (h : decide ((i : Int) < (l.length : Int)) = true) => hg i (by simpa using h) (by rw [← hlen]; simpa using h)
      repeat' (first
    | refine aw_seq ?_
    | refine aw_region ?_
    | refine awo_nil ?_
    | refine k_seq ?_
    | refine k_block ?_
    | refine k_scope ?_
    | refine aw_block ?_
    | refine aw_skip ?_
    | refine aw_label ?_
    | refine aw_scope ?_
    | (apply s_val rfl
       · conv => lhs; whnf
       · conv => lhs; whnf; arg 2; whnf)
    | (apply s_call rfl
       · conv => lhs; whnf
       · conv => lhs; whnf
       · first | exact hg2 (by assumption))
    | (apply s_alloc rfl rfl rfl rfl
       · conv => lhs; whnf; arg 1; whnf
       · rfl)
    | (apply s_store rfl rfl rfl
       · conv => lhs; whnf
       · conv => lhs; whnf; arg 1; whnf
       · conv => lhs; whnf; arg 1; whnf
       · exact ⟨by kernel_rfl, by kernel_rfl⟩
       · rfl)
    | (apply aw_cond_t
       · conv => lhs; whnf; arg 1; arg 1; whnf)
    | (apply aw_cond_f
       · conv => lhs; whnf; arg 1; arg 1; whnf)
    | (refine aw_cond (by conv => lhs; whnf) ?_ ?_ <;> intro hb)
    | refine aw_ret ?_
    | refine aw_exit ?_
    | refine k_seq_exit ?_
    | refine k_seq_ret ?_
    | refine k_block_ret ?_
    | refine k_block_hit rfl ?_
    | refine k_block_miss rfl ?_
    | refine k_scope_exit ?_
    | refine k_scope_ret ?_
    | refine k_loop_exit ?_
    | refine k_loop_ret ?_
    | refine k_end ?_
    | refine k_end_ret ?_
    | (refine ⟨_, by conv => lhs; whnf; arg 2; whnf, ?_⟩; conv => rhs; whnf)
    | exact trivial
    | intro hg)
      · have hlt : i < l.length := by have h : decide ((i : Int) < (l.length : Int)) = true := by assumption
                                      simpa using h
        have hf : (!f (gD l i) (gD m i)) = true := by assumption
        rw [eqL_bad hlt (by simpa using hf)]
      · have hf : (!f (gD l i) (gD m i)) = false := by assumption
        have hlt : i < l.length := by have h : decide ((i : Int) < (l.length : Int)) = true := by assumption
                                      simpa using h
        refine k_loop_next (j' := j - 1) (by omega) ⟨i + 1, by omega, fun q hq => ?_, Sub.live ⟨rfl, rfl, rfl, rfl, rfl, trivial⟩ trivial⟩
        by_cases e : q = i
        · subst e; simpa using hf
        · exact hall q (by omega)
      · exact i64_ok (by omega)
      · have h : decide ((i : Int) < (l.length : Int)) = true := by assumption
        simp at h; omega
      · have h : decide ((i : Int) < (l.length : Int)) = true := by assumption
        simp at h; omega
      · have h : decide ((i : Int) < (l.length : Int)) = false := by assumption
        simp at h
        rw [eqL_all hlen fun q hq => hall q (by omega)]
noncomputable def HEqStr (l m : List D) (i : Nat) : Vst 26 :=
  stS 26 [(0, .sl 9 l), (1, .sl 9 m), (12, .c (.int .i64 l.length)), (13, .c (.int .i64 i))] []
set_option maxRecDepth 100000 in
theorem eqStr_ac (l m : List D) (hn : l.length ≤ 100000000) : AC EN Tryd.prog 83 [.sl 9 l, .sl 9 m] (.c (.bool (eqL strEq l m))) := by
  refine ac_enter 26 Tryd.func83 rfl rfl rfl rfl ?_
  intro s w he
  repeat' (first
    | refine aw_seq ?_
    | refine aw_region ?_
    | refine awo_nil ?_
    | refine k_seq ?_
    | refine k_block ?_
    | refine k_scope ?_
    | refine aw_block ?_
    | refine aw_skip ?_
    | refine aw_label ?_
    | refine aw_scope ?_
    | (apply s_val rfl
       · conv => lhs; whnf
       · conv => lhs; whnf; arg 2; whnf)
    | (apply aw_draw (by kernel_rfl) (by kernel_rfl))
    | apply y_nil
    | (apply y_val rfl
       · conv => lhs; whnf
       · conv => lhs; whnf; arg 2; whnf)
    | exact apartB_none
    | exact apartB_nil
    | exact all_nil
    | (show List.all _ _ = true; rfl)
    | (show apartB _ _ = true; rfl)
    | exact ([] : List Nat)
    | exact (1000000 : Nat)
    | (apply aw_cond_t
       · conv => lhs; whnf; arg 1; arg 1; whnf)
    | (apply aw_cond_f
       · conv => lhs; whnf; arg 1; arg 1; whnf)
    | (refine aw_cond (by conv => lhs; whnf) ?_ ?_ <;> intro hb)
    | refine aw_ret ?_
    | refine aw_exit ?_
    | refine k_seq_exit ?_
    | refine k_seq_ret ?_
    | refine k_block_ret ?_
    | refine k_block_hit rfl ?_
    | refine k_block_miss rfl ?_
    | refine k_scope_exit ?_
    | refine k_scope_ret ?_
    | refine k_loop_exit ?_
    | refine k_loop_ret ?_
    | refine k_end ?_
    | refine k_end_ret ?_
    | (refine ⟨_, by conv => lhs; whnf; arg 2; whnf, ?_⟩; conv => rhs; whnf)
    | exact trivial
    | intro hg)
  · rw [eqL_ne (by assumption)]
  · have hlen : l.length = m.length := eqL_len (by assumption)
    refine aw_loop (fun j st => ∃ i, i + j = l.length ∧ (∀ q, q < i → strEq (gD l q) (gD m q) = true) ∧ Sub (cx EN Tryd.prog s w he) st (HEqStr l m i)) l.length ⟨0, by omega, fun q hq => by omega, ?_⟩ ?_
    · exact Sub.live ⟨rfl, rfl, rfl, rfl, trivial⟩ trivial
    · rintro j st ⟨i, hij, hall, hs2⟩
      refine aw_sub hs2 ?_
      repeat' (first
    | refine aw_seq ?_
    | refine aw_region ?_
    | refine awo_nil ?_
    | refine k_seq ?_
    | refine k_block ?_
    | refine k_scope ?_
    | refine aw_block ?_
    | refine aw_skip ?_
    | refine aw_label ?_
    | refine aw_scope ?_
    | (apply s_val rfl
       · conv => lhs; whnf
       · conv => lhs; whnf; arg 2; whnf)
    | (apply aw_draw (by kernel_rfl) (by kernel_rfl))
    | apply y_nil
    | (apply y_val rfl
       · conv => lhs; whnf
       · conv => lhs; whnf; arg 2; whnf)
    | exact apartB_none
    | exact apartB_nil
    | exact all_nil
    | (show List.all _ _ = true; rfl)
    | (show apartB _ _ = true; rfl)
    | exact ([] : List Nat)
    | exact (1000000 : Nat)
    | (apply aw_cond_t
       · conv => lhs; whnf; arg 1; arg 1; whnf)
    | (apply aw_cond_f
       · conv => lhs; whnf; arg 1; arg 1; whnf)
    | (refine aw_cond (by conv => lhs; whnf) ?_ ?_ <;> intro hb)
    | refine aw_ret ?_
    | refine aw_exit ?_
    | refine k_seq_exit ?_
    | refine k_seq_ret ?_
    | refine k_block_ret ?_
    | refine k_block_hit rfl ?_
    | refine k_block_miss rfl ?_
    | refine k_scope_exit ?_
    | refine k_scope_ret ?_
    | refine k_loop_exit ?_
    | refine k_loop_ret ?_
    | refine k_end ?_
    | refine k_end_ret ?_
    | (refine ⟨_, by conv => lhs; whnf; arg 2; whnf, ?_⟩; conv => rhs; whnf)
    | exact trivial
    | intro hg)
      · have hlt : i < l.length := by have h : decide ((i : Int) < (l.length : Int)) = true := by assumption
                                      simpa using h
        have hf : (!strEq (gD l i) (gD m i)) = true := by assumption
        rw [eqL_bad hlt (by simpa using hf)]
      · have hf : (!strEq (gD l i) (gD m i)) = false := by assumption
        have hlt : i < l.length := by have h : decide ((i : Int) < (l.length : Int)) = true := by assumption
                                      simpa using h
        refine k_loop_next (j' := j - 1) (by omega) ⟨i + 1, by omega, fun q hq => ?_, Sub.live ⟨rfl, rfl, rfl, rfl, trivial⟩ trivial⟩
        by_cases e : q = i
        · subst e; simpa using hf
        · exact hall q (by omega)
      · exact i64_ok (by omega)
      · have h : decide ((i : Int) < (l.length : Int)) = true := by assumption
        simp at h; omega
      · have h : decide ((i : Int) < (l.length : Int)) = true := by assumption
        simp at h; omega
      · have h : decide ((i : Int) < (l.length : Int)) = false := by assumption
        simp at h
        rw [eqL_all hlen fun q hq => hall q (by omega)]
noncomputable def HEqInt (l m : List D) (i : Nat) : Vst 26 :=
  stS 26 [(0, .sl 3 l), (1, .sl 3 m), (12, .c (.int .i64 l.length)), (13, .c (.int .i64 i))] []
set_option maxRecDepth 100000 in
theorem eqInt_ac (l m : List D) (hn : l.length ≤ 100000000) : AC EN Tryd.prog 154 [.sl 3 l, .sl 3 m] (.c (.bool (eqL intEq l m))) := by
  refine ac_enter 26 Tryd.func154 rfl rfl rfl rfl ?_
  intro s w he
  repeat' (first
    | refine aw_seq ?_
    | refine aw_region ?_
    | refine awo_nil ?_
    | refine k_seq ?_
    | refine k_block ?_
    | refine k_scope ?_
    | refine aw_block ?_
    | refine aw_skip ?_
    | refine aw_label ?_
    | refine aw_scope ?_
    | (apply s_val rfl
       · conv => lhs; whnf
       · conv => lhs; whnf; arg 2; whnf)
    | (apply aw_draw (by kernel_rfl) (by kernel_rfl))
    | apply y_nil
    | (apply y_val rfl
       · conv => lhs; whnf
       · conv => lhs; whnf; arg 2; whnf)
    | exact apartB_none
    | exact apartB_nil
    | exact all_nil
    | (show List.all _ _ = true; rfl)
    | (show apartB _ _ = true; rfl)
    | exact ([] : List Nat)
    | exact (1000000 : Nat)
    | (apply aw_cond_t
       · conv => lhs; whnf; arg 1; arg 1; whnf)
    | (apply aw_cond_f
       · conv => lhs; whnf; arg 1; arg 1; whnf)
    | (refine aw_cond (by conv => lhs; whnf) ?_ ?_ <;> intro hb)
    | refine aw_ret ?_
    | refine aw_exit ?_
    | refine k_seq_exit ?_
    | refine k_seq_ret ?_
    | refine k_block_ret ?_
    | refine k_block_hit rfl ?_
    | refine k_block_miss rfl ?_
    | refine k_scope_exit ?_
    | refine k_scope_ret ?_
    | refine k_loop_exit ?_
    | refine k_loop_ret ?_
    | refine k_end ?_
    | refine k_end_ret ?_
    | (refine ⟨_, by conv => lhs; whnf; arg 2; whnf, ?_⟩; conv => rhs; whnf)
    | exact trivial
    | intro hg)
  · rw [eqL_ne (by assumption)]
  · have hlen : l.length = m.length := eqL_len (by assumption)
    refine aw_loop (fun j st => ∃ i, i + j = l.length ∧ (∀ q, q < i → intEq (gD l q) (gD m q) = true) ∧ Sub (cx EN Tryd.prog s w he) st (HEqInt l m i)) l.length ⟨0, by omega, fun q hq => by omega, ?_⟩ ?_
    · exact Sub.live ⟨rfl, rfl, rfl, rfl, trivial⟩ trivial
    · rintro j st ⟨i, hij, hall, hs2⟩
      refine aw_sub hs2 ?_
      repeat' (first
    | refine aw_seq ?_
    | refine aw_region ?_
    | refine awo_nil ?_
    | refine k_seq ?_
    | refine k_block ?_
    | refine k_scope ?_
    | refine aw_block ?_
    | refine aw_skip ?_
    | refine aw_label ?_
    | refine aw_scope ?_
    | (apply s_val rfl
       · conv => lhs; whnf
       · conv => lhs; whnf; arg 2; whnf)
    | (apply aw_draw (by kernel_rfl) (by kernel_rfl))
    | apply y_nil
    | (apply y_val rfl
       · conv => lhs; whnf
       · conv => lhs; whnf; arg 2; whnf)
    | exact apartB_none
    | exact apartB_nil
    | exact all_nil
    | (show List.all _ _ = true; rfl)
    | (show apartB _ _ = true; rfl)
    | exact ([] : List Nat)
    | exact (1000000 : Nat)
    | (apply aw_cond_t
       · conv => lhs; whnf; arg 1; arg 1; whnf)
    | (apply aw_cond_f
       · conv => lhs; whnf; arg 1; arg 1; whnf)
    | (refine aw_cond (by conv => lhs; whnf) ?_ ?_ <;> intro hb)
    | refine aw_ret ?_
    | refine aw_exit ?_
    | refine k_seq_exit ?_
    | refine k_seq_ret ?_
    | refine k_block_ret ?_
    | refine k_block_hit rfl ?_
    | refine k_block_miss rfl ?_
    | refine k_scope_exit ?_
    | refine k_scope_ret ?_
    | refine k_loop_exit ?_
    | refine k_loop_ret ?_
    | refine k_end ?_
    | refine k_end_ret ?_
    | (refine ⟨_, by conv => lhs; whnf; arg 2; whnf, ?_⟩; conv => rhs; whnf)
    | exact trivial
    | intro hg)
      · have hlt : i < l.length := by have h : decide ((i : Int) < (l.length : Int)) = true := by assumption
                                      simpa using h
        have hf : (!intEq (gD l i) (gD m i)) = true := by assumption
        rw [eqL_bad hlt (by simpa using hf)]
      · have hf : (!intEq (gD l i) (gD m i)) = false := by assumption
        have hlt : i < l.length := by have h : decide ((i : Int) < (l.length : Int)) = true := by assumption
                                      simpa using h
        refine k_loop_next (j' := j - 1) (by omega) ⟨i + 1, by omega, fun q hq => ?_, Sub.live ⟨rfl, rfl, rfl, rfl, trivial⟩ trivial⟩
        by_cases e : q = i
        · subst e; simpa using hf
        · exact hall q (by omega)
      · exact i64_ok (by omega)
      · have h : decide ((i : Int) < (l.length : Int)) = true := by assumption
        simp at h; omega
      · have h : decide ((i : Int) < (l.length : Int)) = true := by assumption
        simp at h; omega
      · have h : decide ((i : Int) < (l.length : Int)) = false := by assumption
        simp at h
        rw [eqL_all hlen fun q hq => hall q (by omega)]
end Go.Proofs.YtohneabalakmeaaDoor
