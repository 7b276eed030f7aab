/- Parts of a proof, merged by a program (shake.py). -/
import Derived.Test.YtjhjleanihgopaaDoorQ30
set_option linter.unusedVariables false
set_option linter.unusedSimpArgs false
namespace Go.Proofs.YtjhjleanihgopaaDoor
open Go.RowKit
attribute [local irreducible] wpList Calls Code.wp
section
variable {X : Cx} {nn : Nat} {st : Vst nn} {o : Oper} {ops : Array Oper} {l : List Oper} {dst : Option Tmp} {KK : Vst nn → Prop}
set_option maxRecDepth 100000 in
theorem s_max {k : IntKind} {a b : Int} {x y : Operand} {ts : Array TypeId} (hg : o.guard = none) (ho : o.op = .call { callee := .builtin .max, args := #[x, y], argTypes := ts }) (hd : o.dst = dst) (hx : ev st x = .c (.int k a)) (hy : ev st y = .c (.int k b)) (hK : AWo X ops l (st.put dst (.c (.int k (if a < b then b else a)))) KK) : AWo X ops (o :: l) st KK := by
  refine awo_cons hg ?_
  intro s w a' hI N Q hN
  have r1 := hI.ev x
  have r2 := hI.ev y
  rw [hx, rel] at r1
  rw [hy, rel] at r2
  have h1 : (execOp a'.eval o).run X.P w = .ok (.value (.int k (if a < b then b else a))) w := by
    simp [execOp, ho, resolve, invoke, builtin, Builtin.max_, Builtin.max2, r1.1, r2.1]
  unfold Oper.wp
  rw [h1, Oper.upon_value]
  refine hN _ _ _ _ (hI.put o.dst ?_) (by rw [hd]; exact hK)
  rw [rel]
  refine ⟨rfl, ?_⟩
  split
  · exact r2.2
  · exact r1.2
end
attribute [local irreducible] AW AWo OpOk seqK blockK scopeK loopK endK endKB AC ACB absLex absLexG Yld YldG Sub
/-- no deeper than k -/
def Dp : Nat → D → Prop
  | 0, _ => False
  | k + 1, d => ∀ i, i < (d.f 3).l.length → Dp k (gD (d.f 3).l i)
set_option maxRecDepth 100000 in
theorem sumN_le {g : Nat → Nat} : ∀ {i n : Nat}, i ≤ n → sumN g i ≤ sumN g n
  | i, 0, h => by rw [show i = 0 by omega]; exact Nat.le_refl _
  | i, n + 1, h => by
    by_cases e : i = n + 1
    · rw [e]; exact Nat.le_refl _
    · rw [sumN_succ]; exact Nat.le_trans (sumN_le (show i ≤ n by omega)) (Nat.le_add_right _ _)
set_option maxRecDepth 100000 in
theorem sumN_mono {g g' : Nat → Nat} : ∀ {n : Nat}, (∀ i, i < n → g i ≤ g' i) → sumN g n ≤ sumN g' n
  | 0, _ => Nat.le_refl _
  | n + 1, h => by
    have := sumN_mono (n := n) fun i hi => h i (by omega)
    have := h n (by omega)
    rw [sumN_succ, sumN_succ]; omega
def kwD (l : List D) : Nat := (l.map fun x => 1 + x.s.size).sum
set_option maxRecDepth 100000 in
theorem wt_eq (k : Nat) (d : D) : wtJ (k + 1) d = 1 + (d.f 2).s.size + kwD (d.f 4).l + sumN (fun i => wtJ k (gD (d.f 3).l i)) (d.f 3).l.length := by
  show 1 + (d.f 2).s.size + kwD (d.f 4).l + ((d.f 3).l.map fun x => wtJ k x).sum = _
  rw [sum_gD]
set_option maxRecDepth 100000 in
theorem wt_pos : ∀ {k : Nat} {d : D}, Dp k d → 1 ≤ wtJ k d
  | 0, _, h => h.elim
  | k + 1, d, h => by rw [wt_eq]; omega
set_option maxRecDepth 100000 in
theorem kw_len (l : List D) : l.length ≤ kwD l := by
  unfold kwD
  induction l with
  | nil => simp
  | cons x l ih => simp only [List.map_cons, List.sum_cons, List.length_cons]; omega
set_option maxRecDepth 100000 in
theorem sumN_pos {g : Nat → Nat} : ∀ {n : Nat}, (∀ i, i < n → 1 ≤ g i) → n ≤ sumN g n
  | 0, _ => Nat.zero_le _
  | n + 1, h => by
    have := sumN_pos (n := n) fun i hi => h i (by omega)
    have := h n (by omega)
    rw [sumN_succ]; omega
structure WtIn (k : Nat) (d : D) (B : Nat) : Prop where
  text : (d.f 2).s.size + 1 ≤ B
  keys : (d.f 4).l.length + 1 ≤ B
  items : (d.f 3).l.length + 1 ≤ B
  at_ : ∀ i, i < (d.f 3).l.length → wtJ k (gD (d.f 3).l i) ≤ B
  key : ∀ i, i < (d.f 4).l.length → (gD (d.f 4).l i).s.size ≤ B
set_option maxRecDepth 100000 in
theorem le_sumL {l : List Nat} {a : Nat} (h : a ∈ l) : a ≤ l.sum := by
  induction l with
  | nil => cases h
  | cons b l ih =>
    rw [List.sum_cons]
    rcases List.mem_cons.1 h with rfl | h
    · omega
    · have := ih h; omega
set_option maxRecDepth 100000 in
theorem kw_at {l : List D} {i : Nat} (h : i < l.length) : (gD l i).s.size ≤ kwD l := by
  unfold kwD
  have h1 : 1 + (gD l i).s.size ≤ (l.map fun x => 1 + x.s.size).sum := le_sumL (List.mem_map_of_mem (gD_mem h))
  omega
set_option maxRecDepth 100000 in
theorem wt_in {k : Nat} {d : D} (h : Dp (k + 1) d) {B : Nat} (hB : wtJ (k + 1) d ≤ B) : WtIn k d B := by
  rw [wt_eq] at hB
  have h1 := kw_len (d.f 4).l
  have h2 : (d.f 3).l.length ≤ sumN (fun i => wtJ k (gD (d.f 3).l i)) (d.f 3).l.length := sumN_pos fun i hi => wt_pos (h i hi)
  refine ⟨by omega, by omega, by omega, fun i hi => ?_, fun i hi => by have := kw_at hi; omega⟩
  have h3 := sumN_le (g := fun i => wtJ k (gD (d.f 3).l i)) (show i + 1 ≤ (d.f 3).l.length from hi)
  rw [sumN_succ] at h3
  omega
set_option maxRecDepth 100000 in
theorem size_wt : ∀ {k : Nat} {d : D}, Dp k d → sizeJ k d ≤ wtJ k d
  | 0, _, h => h.elim
  | k + 1, d, h => by
    rw [wt_eq]
    have := sumN_mono (g := fun i => sizeJ k (gD (d.f 3).l i)) (g' := fun i => wtJ k (gD (d.f 3).l i)) (n := (d.f 3).l.length) fun i hi => size_wt (h i hi)
    show 1 + sumN (fun i => sizeJ k (gD (d.f 3).l i)) (d.f 3).l.length ≤ _
    omega
noncomputable def HSz (l : List D) (n i : Nat) : Vst 19 := stS 19 [(3, .c (.int .i64 (n : Int))), (7, .sl 39 l), (8, .c (.int .i64 (l.length : Int))), (9, .c (.int .i64 (i : Int)))] []
set_option maxRecDepth 100000 in
theorem lt_b {i n : Nat} (h : decide ((i : Int) < (n : Int)) = true) : i < n := by simpa using h
set_option maxRecDepth 100000 in
theorem ge_b {i n : Nat} (h : decide ((i : Int) < (n : Int)) = false) : n ≤ i := by simpa using h
set_option maxRecDepth 100000 in
theorem ixn_ok {i n : Nat} (h : i < n) : 0 ≤ (i : Int) ∧ (i : Int) < (n : Int) := ⟨by omega, by omega⟩
set_option maxRecDepth 100000 in
theorem size_ac : ∀ (k : Nat) (d : D), Dp k d → wtJ k d ≤ 1000000000 → AC EN5 Tryd.prog 44 [.agg (cellsV Tryd.prog 12 39 d)] (.c (.int .i64 (sizeJ k d : Int)))
  | 0, _, h, _ => h.elim
  | k + 1, d, h, hw => by
    have hin := wt_in h hw
    have hl := hin.items
    have ih := fun i (hi : i < (d.f 3).l.length) => size_ac k (gD (d.f 3).l i) (h i hi) (hin.at_ i hi)
    have hsw := size_wt h
    have hs : sizeJ (k + 1) d = 1 + sumN (fun i => sizeJ k (gD (d.f 3).l i)) (d.f 3).l.length := rfl
    refine ac_enter 19 Tryd.func44 rfl rfl rfl rfl ?_
    intro s w he
    repeat' (first
    | refine aw_seq ?_
    | refine aw_region ?_
    | refine awo_nil ?_
    | refine k_seq ?_
    | refine k_block ?_
    | refine k_scope ?_
    | refine aw_block ?_
    | refine aw_skip ?_
    | refine aw_label ?_
    | refine aw_scope ?_
    | (apply s_val rfl
       · conv => lhs; whnf
       · conv => lhs; whnf; arg 2; whnf)
    | (apply s_call rfl
       · conv => lhs; whnf
       · conv => lhs; whnf
       · first | fail)
    | (apply s_box rfl rfl rfl rfl
       · conv => lhs; whnf; arg 1; whnf
       · rfl)
    | (apply s_alloc rfl rfl rfl rfl
       · conv => lhs; whnf; arg 1; whnf
       · rfl)
    | (apply s_store rfl rfl rfl
       · conv => lhs; whnf
       · conv => lhs; whnf; arg 1; whnf
       · conv => lhs; whnf; arg 1; whnf
       · exact ⟨by kernel_rfl, by kernel_rfl⟩
       · rfl)
    | (apply aw_cond_t
       · conv => lhs; whnf; arg 1; arg 1; whnf)
    | (apply aw_cond_f
       · conv => lhs; whnf; arg 1; arg 1; whnf)
    | (refine aw_cond (by conv => lhs; whnf) ?_ ?_ <;> intro hb)
    | refine aw_ret ?_
    | refine aw_exit ?_
    | refine k_seq_exit ?_
    | refine k_seq_ret ?_
    | refine k_block_ret ?_
    | refine k_block_hit rfl ?_
    | refine k_block_miss rfl ?_
    | refine k_scope_exit ?_
    | refine k_scope_ret ?_
    | refine k_loop_exit ?_
    | refine k_loop_ret ?_
    | refine k_end ?_
    | refine k_end_ret ?_
    | (refine ⟨_, by conv => lhs; whnf; arg 2; whnf, ?_⟩; conv => rhs; whnf)
    | exact trivial
    | intro hg)
    refine aw_loop (fun j st => ∃ i, i + j = (d.f 3).l.length ∧ Sub (cx EN5 Tryd.prog s w he) st (HSz (d.f 3).l (1 + sumN (fun i => sizeJ k (gD (d.f 3).l i)) i) i)) (d.f 3).l.length ⟨0, by omega, ?_⟩ ?_
    · exact Sub.live ⟨rfl, rfl, rfl, rfl, trivial⟩ trivial
    · rintro j st ⟨i, hij, hs2⟩
      refine aw_sub hs2 ?_
      clear hs2
      have ih2 := fun (h : decide ((i : Int) < ((d.f 3).l.length : Int)) = true) => ih i (lt_b h)
      have hle := fun (h : i < (d.f 3).l.length) => sumN_le (g := fun i => sizeJ k (gD (d.f 3).l i)) (show i + 1 ≤ (d.f 3).l.length from h)
      simp only [sumN_succ] at hle
      have hss := sumN_succ (fun i => sizeJ k (gD (d.f 3).l i)) i
      repeat' (first
    | refine aw_seq ?_
    | refine aw_region ?_
    | refine awo_nil ?_
    | refine k_seq ?_
    | refine k_block ?_
    | refine k_scope ?_
    | refine aw_block ?_
    | refine aw_skip ?_
    | refine aw_label ?_
    | refine aw_scope ?_
    | (apply s_val rfl
       · conv => lhs; whnf
       · conv => lhs; whnf; arg 2; whnf)
    | (apply s_call rfl
       · conv => lhs; whnf
       · conv => lhs; whnf
       · first | exact ih2 (by assumption))
    | (apply s_box rfl rfl rfl rfl
       · conv => lhs; whnf; arg 1; whnf
       · rfl)
    | (apply s_alloc rfl rfl rfl rfl
       · conv => lhs; whnf; arg 1; whnf
       · rfl)
    | (apply s_store rfl rfl rfl
       · conv => lhs; whnf
       · conv => lhs; whnf; arg 1; whnf
       · conv => lhs; whnf; arg 1; whnf
       · exact ⟨by kernel_rfl, by kernel_rfl⟩
       · rfl)
    | (apply aw_cond_t
       · conv => lhs; whnf; arg 1; arg 1; whnf)
    | (apply aw_cond_f
       · conv => lhs; whnf; arg 1; arg 1; whnf)
    | (refine aw_cond (by conv => lhs; whnf) ?_ ?_ <;> intro hb)
    | refine aw_ret ?_
    | refine aw_exit ?_
    | refine k_seq_exit ?_
    | refine k_seq_ret ?_
    | refine k_block_ret ?_
    | refine k_block_hit rfl ?_
    | refine k_block_miss rfl ?_
    | refine k_scope_exit ?_
    | refine k_scope_ret ?_
    | refine k_loop_exit ?_
    | refine k_loop_ret ?_
    | refine k_end ?_
    | refine k_end_ret ?_
    | (refine ⟨_, by conv => lhs; whnf; arg 2; whnf, ?_⟩; conv => rhs; whnf)
    | exact trivial
    | intro hg)
      all_goals
        first
          | (have g := lt_b (by assumption)
             have g1 := hle g
             first
               | (refine k_loop_next (j' := j - 1) (by omega) ⟨i + 1, by omega, Sub.live ⟨?_, rfl, rfl, rfl, trivial⟩ trivial⟩
                  refine congrArg (fun n => V.c (.int .i64 n)) (?_ : ((1 + sumN (fun i => sizeJ k (gD (d.f 3).l i)) i : Nat) : Int) + (sizeJ k (gD (d.f 3).l i) : Int) = ((1 + sumN (fun i => sizeJ k (gD (d.f 3).l i)) (i + 1) : Nat) : Int))
                  simp only [sumN_succ]
                  omega)
               | (refine i64_in2 ?_; omega)
               | (refine ixn_ok ?_; exact g))
          | (have g := ge_b (by assumption)
             rw [hs, show i = (d.f 3).l.length by omega])
noncomputable def HDp (l : List D) (n i : Nat) : Vst 20 := stS 20 [(3, .c (.int .i64 (n : Int))), (7, .sl 39 l), (8, .c (.int .i64 (l.length : Int))), (9, .c (.int .i64 (i : Int)))] []
set_option maxRecDepth 100000 in
theorem maxN_le {g : Nat → Nat} {B : Nat} : ∀ {n : Nat}, (∀ i, i < n → g i ≤ B) → maxN g n ≤ B
  | 0, _ => Nat.zero_le _
  | n + 1, h => by
    rw [maxN_succ]
    exact Nat.max_le.2 ⟨maxN_le fun i hi => h i (by omega), h n (by omega)⟩
set_option maxRecDepth 100000 in
theorem depth_wt : ∀ {k : Nat} {d : D}, Dp k d → depthJ k d ≤ wtJ k d
  | 0, _, h => h.elim
  | k + 1, d, h => by
    rw [wt_eq]
    have h1 : maxN (fun i => depthJ k (gD (d.f 3).l i)) (d.f 3).l.length ≤ sumN (fun i => wtJ k (gD (d.f 3).l i)) (d.f 3).l.length := maxN_le fun i hi => by
      have h2 := depth_wt (h i hi)
      have h3 := sumN_le (g := fun i => wtJ k (gD (d.f 3).l i)) (show i + 1 ≤ (d.f 3).l.length from hi)
      rw [sumN_succ] at h3
      exact Nat.le_trans h2 (Nat.le_trans (Nat.le_add_left _ _) h3)
    show maxN (fun i => depthJ k (gD (d.f 3).l i)) (d.f 3).l.length + 1 ≤ _
    omega
set_option maxRecDepth 100000 in
theorem max_i (a b : Nat) : (if (a : Int) < (b : Int) then (b : Int) else (a : Int)) = ((max a b : Nat) : Int) := by
  split <;> omega
set_option maxRecDepth 100000 in
theorem depth_ac : ∀ (k : Nat) (d : D), Dp k d → wtJ k d ≤ 1000000000 → AC EN5 Tryd.prog 45 [.agg (cellsV Tryd.prog 12 39 d)] (.c (.int .i64 (depthJ k d : Int)))
  | 0, _, h, _ => h.elim
  | k + 1, d, h, hw => by
    have hin := wt_in h hw
    have hl := hin.items
    have ih := fun i (hi : i < (d.f 3).l.length) => depth_ac k (gD (d.f 3).l i) (h i hi) (hin.at_ i hi)
    have hsw := depth_wt h
    have hs : depthJ (k + 1) d = maxN (fun i => depthJ k (gD (d.f 3).l i)) (d.f 3).l.length + 1 := rfl
    refine ac_enter 20 Tryd.func45 rfl rfl rfl rfl ?_
    intro s w he
    repeat' (first
    | refine aw_seq ?_
    | refine aw_region ?_
    | refine awo_nil ?_
    | refine k_seq ?_
    | refine k_block ?_
    | refine k_scope ?_
    | refine aw_block ?_
    | refine aw_skip ?_
    | refine aw_label ?_
    | refine aw_scope ?_
    | (apply s_val rfl
       · conv => lhs; whnf
       · conv => lhs; whnf; arg 2; whnf)
    | (apply s_call rfl
       · conv => lhs; whnf
       · conv => lhs; whnf
       · first | fail)
    | (apply s_box rfl rfl rfl rfl
       · conv => lhs; whnf; arg 1; whnf
       · rfl)
    | (apply s_alloc rfl rfl rfl rfl
       · conv => lhs; whnf; arg 1; whnf
       · rfl)
    | (apply s_store rfl rfl rfl
       · conv => lhs; whnf
       · conv => lhs; whnf; arg 1; whnf
       · conv => lhs; whnf; arg 1; whnf
       · exact ⟨by kernel_rfl, by kernel_rfl⟩
       · rfl)
    | (apply aw_cond_t
       · conv => lhs; whnf; arg 1; arg 1; whnf)
    | (apply aw_cond_f
       · conv => lhs; whnf; arg 1; arg 1; whnf)
    | (refine aw_cond (by conv => lhs; whnf) ?_ ?_ <;> intro hb)
    | refine aw_ret ?_
    | refine aw_exit ?_
    | refine k_seq_exit ?_
    | refine k_seq_ret ?_
    | refine k_block_ret ?_
    | refine k_block_hit rfl ?_
    | refine k_block_miss rfl ?_
    | refine k_scope_exit ?_
    | refine k_scope_ret ?_
    | refine k_loop_exit ?_
    | refine k_loop_ret ?_
    | refine k_end ?_
    | refine k_end_ret ?_
    | (refine ⟨_, by conv => lhs; whnf; arg 2; whnf, ?_⟩; conv => rhs; whnf)
    | exact trivial
    | intro hg)
    refine aw_loop (fun j st => ∃ i, i + j = (d.f 3).l.length ∧ Sub (cx EN5 Tryd.prog s w he) st (HDp (d.f 3).l (maxN (fun i => depthJ k (gD (d.f 3).l i)) i) i)) (d.f 3).l.length ⟨0, by omega, ?_⟩ ?_
    · exact Sub.live ⟨rfl, rfl, rfl, rfl, trivial⟩ trivial
    · rintro j st ⟨i, hij, hs2⟩
      refine aw_sub hs2 ?_
      clear hs2
      have ih2 := fun (h : decide ((i : Int) < ((d.f 3).l.length : Int)) = true) => ih i (lt_b h)
      repeat' (first
    | (apply s_max rfl rfl rfl
       · conv => lhs; whnf; arg 1; whnf
       · conv => lhs; whnf; arg 1; whnf)
    | refine aw_seq ?_
    | refine aw_region ?_
    | refine awo_nil ?_
    | refine k_seq ?_
    | refine k_block ?_
    | refine k_scope ?_
    | refine aw_block ?_
    | refine aw_skip ?_
    | refine aw_label ?_
    | refine aw_scope ?_
    | (apply s_val rfl
       · conv => lhs; whnf
       · conv => lhs; whnf; arg 2; whnf)
    | (apply s_call rfl
       · conv => lhs; whnf
       · conv => lhs; whnf
       · first | exact ih2 (by assumption))
    | (apply s_box rfl rfl rfl rfl
       · conv => lhs; whnf; arg 1; whnf
       · rfl)
    | (apply s_alloc rfl rfl rfl rfl
       · conv => lhs; whnf; arg 1; whnf
       · rfl)
    | (apply s_store rfl rfl rfl
       · conv => lhs; whnf
       · conv => lhs; whnf; arg 1; whnf
       · conv => lhs; whnf; arg 1; whnf
       · exact ⟨by kernel_rfl, by kernel_rfl⟩
       · rfl)
    | (apply aw_cond_t
       · conv => lhs; whnf; arg 1; arg 1; whnf)
    | (apply aw_cond_f
       · conv => lhs; whnf; arg 1; arg 1; whnf)
    | (refine aw_cond (by conv => lhs; whnf) ?_ ?_ <;> intro hb)
    | refine aw_ret ?_
    | refine aw_exit ?_
    | refine k_seq_exit ?_
    | refine k_seq_ret ?_
    | refine k_block_ret ?_
    | refine k_block_hit rfl ?_
    | refine k_block_miss rfl ?_
    | refine k_scope_exit ?_
    | refine k_scope_ret ?_
    | refine k_loop_exit ?_
    | refine k_loop_ret ?_
    | refine k_end ?_
    | refine k_end_ret ?_
    | (refine ⟨_, by conv => lhs; whnf; arg 2; whnf, ?_⟩; conv => rhs; whnf)
    | exact trivial
    | intro hg)
      all_goals
        first
          | (have g := lt_b (by assumption)
             first
               | (refine k_loop_next (j' := j - 1) (by omega) ⟨i + 1, by omega, Sub.live ⟨?_, rfl, rfl, rfl, trivial⟩ trivial⟩
                  refine congrArg (fun n => V.c (.int .i64 n)) (?_ : (if ((maxN (fun i => depthJ k (gD (d.f 3).l i)) i : Nat) : Int) < (depthJ k (gD (d.f 3).l i) : Int) then (depthJ k (gD (d.f 3).l i) : Int) else ((maxN (fun i => depthJ k (gD (d.f 3).l i)) i : Nat) : Int)) = ((maxN (fun i => depthJ k (gD (d.f 3).l i)) (i + 1) : Nat) : Int))
                  rw [max_i, maxN_succ])
               | (refine i64_in2 ?_; omega)
               | (refine ixn_ok ?_; exact g))
          | (have g := ge_b (by assumption)
             have e : i = (d.f 3).l.length := by omega
             subst e
             first
               | exact i64_in2 (by omega)
               | rfl)
def wKeys : List D → Nat → Nat
  | [], n => n
  | x :: l, n => if n ≤ 3000 then wKeys l (n + (1 + x.s.size)) else n
def wItems (g : D → Nat) : List D → Nat → Nat
  | [], n => n
  | x :: l, n => if n ≤ 3000 then wItems g l (n + g x) else n
def wF : Nat → D → Nat
  | 0, _ => 0
  | k + 1, d => wItems (wF k) (d.f 3).l (wKeys (d.f 4).l (1 + (d.f 2).s.size))
set_option maxRecDepth 100000 in
theorem wItems_ge (g : D → Nat) : ∀ (l : List D) (n : Nat), n ≤ wItems g l n
  | [], n => Nat.le_refl _
  | x :: l, n => by
    unfold wItems
    split
    · exact Nat.le_trans (Nat.le_add_right _ _) (wItems_ge g l _)
    · exact Nat.le_refl _
set_option maxRecDepth 100000 in
theorem wItems_le (g : D → Nat) : ∀ (l : List D) (n : Nat), wItems g l n ≤ n + (l.map g).sum
  | [], n => Nat.le_refl _
  | x :: l, n => by
    unfold wItems
    rw [List.map_cons, List.sum_cons]
    split
    · have := wItems_le g l (n + g x); omega
    · omega
set_option maxRecDepth 100000 in
theorem wItems_eq (g : D → Nat) : ∀ (l : List D) (n : Nat), wItems g l n ≤ 3000 → wItems g l n = n + (l.map g).sum
  | [], n, _ => rfl
  | x :: l, n, h => by
    have h0 := Nat.le_trans (wItems_ge g (x :: l) n) h
    unfold wItems at h ⊢
    rw [if_pos h0] at h ⊢
    rw [wItems_eq g l _ h, List.map_cons, List.sum_cons]
    omega
set_option maxRecDepth 100000 in
theorem wKeys_items : ∀ (l : List D) (n : Nat), wKeys l n = wItems (fun x => 1 + x.s.size) l n
  | [], n => rfl
  | x :: l, n => by
    unfold wKeys wItems
    rw [wKeys_items l]
set_option maxRecDepth 100000 in
theorem map_le {g g' : D → Nat} : ∀ {l : List D}, (∀ i, i < l.length → g (gD l i) ≤ g' (gD l i)) → (l.map g).sum ≤ (l.map g').sum := by
  intro l h
  rw [← sum_gD, ← sum_gD]
  exact sumN_mono h
set_option maxRecDepth 100000 in
theorem wF_le : ∀ {k : Nat} {d : D}, wF k d ≤ wtJ k d
  | 0, _ => Nat.le_refl _
  | k + 1, d => by
    have h1 := wItems_le (wF k) (d.f 3).l (wKeys (d.f 4).l (1 + (d.f 2).s.size))
    have h2 := wItems_le (fun x => 1 + x.s.size) (d.f 4).l (1 + (d.f 2).s.size)
    have h3 : ((d.f 3).l.map (wF k)).sum ≤ ((d.f 3).l.map fun x => wtJ k x).sum := map_le fun i _ => wF_le
    rw [← wKeys_items] at h2
    show wItems (wF k) (d.f 3).l (wKeys (d.f 4).l (1 + (d.f 2).s.size)) ≤ 1 + (d.f 2).s.size + ((d.f 4).l.map fun x => 1 + x.s.size).sum + ((d.f 3).l.map fun x => wtJ k x).sum
    omega
set_option maxRecDepth 100000 in
theorem map_sum_at {g : D → Nat} {l : List D} {x : D} (h : x ∈ l) : g x ≤ (l.map g).sum := by
  induction l with
  | nil => cases h
  | cons y l ih =>
    rw [List.map_cons, List.sum_cons]
    rcases List.mem_cons.1 h with rfl | h
    · omega
    · have := ih h; omega
set_option maxRecDepth 100000 in
theorem wF_eq : ∀ {k : Nat} {d : D}, wF k d ≤ 3000 → wF k d = wtJ k d
  | 0, _, _ => rfl
  | k + 1, d, h => by
    have h : wItems (wF k) (d.f 3).l (wKeys (d.f 4).l (1 + (d.f 2).s.size)) ≤ 3000 := h
    have h1 := wItems_eq (wF k) (d.f 3).l _ h
    have h0 := Nat.le_trans (wItems_ge _ _ _) h
    rw [wKeys_items] at h0
    have h2 := wItems_eq (fun x => 1 + x.s.size) (d.f 4).l (1 + (d.f 2).s.size) h0
    rw [← wKeys_items] at h2
    have h3 : (d.f 3).l.map (wF k) = (d.f 3).l.map fun x => wtJ k x := List.map_congr_left fun x hx => wF_eq (by
      have := map_sum_at (g := wF k) hx
      omega)
    show wItems (wF k) (d.f 3).l (wKeys (d.f 4).l (1 + (d.f 2).s.size)) = 1 + (d.f 2).s.size + ((d.f 4).l.map fun x => 1 + x.s.size).sum + ((d.f 3).l.map fun x => wtJ k x).sum
    rw [h1, h2, h3]
set_option maxRecDepth 100000 in
theorem wF_small {k : Nat} {d : D} : wF k d ≤ 3000 ↔ wtJ k d ≤ 3000 := ⟨fun h => by rw [← wF_eq h]; exact h, fun h => Nat.le_trans wF_le h⟩
set_option maxRecDepth 100000 in
theorem gl_t {i n : Nat} (h : (decide ((i : Int) < (n : Int)) == true) = true) : i < n := by simpa using h
set_option maxRecDepth 100000 in
theorem gl_f {i n : Nat} (h : (decide ((i : Int) < (n : Int)) == true) = false) : n ≤ i := by simpa using h
set_option maxRecDepth 100000 in
theorem drop_gD {l : List D} {i : Nat} (h : i < l.length) : l.drop i = gD l i :: l.drop (i + 1) := by
  rw [List.drop_eq_getElem_cons h, gD_get h]
noncomputable def HWk (d : D) (n i : Nat) : Vst 55 := stS 55 [(1, .c (.int .i64 3000)), (2, .bx 2 0), (5, .c (.int .i64 (n : Int))), (6, .c (.int .i64 (i : Int)))] [(2, .box 39 (cellsV Tryd.prog 12 39 d))]
noncomputable def HWi (d : D) (n i : Nat) : Vst 55 := stS 55 [(1, .c (.int .i64 3000)), (2, .bx 2 0), (5, .c (.int .i64 (n : Int))), (7, .c (.int .i64 (i : Int)))] [(2, .box 39 (cellsV Tryd.prog 12 39 d))]
set_option maxRecDepth 100000 in
theorem weight_ac : ∀ (k : Nat) (d : D), Dp k d → wtJ k d ≤ 1000000000 → AC EN5 Tryd.prog 33 [.agg (cellsV Tryd.prog 12 39 d), .c (.int .i64 3000)] (.c (.int .i64 (wF k d : Int)))
  | 0, _, h, _ => h.elim
  | k + 1, d, h, hw => by
    have hin := wt_in h hw
    have hl := hin.items
    have hk := hin.keys
    have ht := hin.text
    have ih := fun i (hi : i < (d.f 3).l.length) => weight_ac k (gD (d.f 3).l i) (h i hi) (hin.at_ i hi)
    have hs : wF (k + 1) d = wItems (wF k) (d.f 3).l (wKeys (d.f 4).l (1 + (d.f 2).s.size)) := rfl
    have htot : 1 + (d.f 2).s.size + ((d.f 4).l.map fun x => 1 + x.s.size).sum + ((d.f 3).l.map fun x => wtJ k x).sum ≤ 1000000000 := hw
    refine ac_enter 55 Tryd.func33 rfl rfl rfl rfl ?_
    intro s w he
    have c0 : 1 + (d.f 2).s.size ≤ wKeys (d.f 4).l (1 + (d.f 2).s.size) := by rw [wKeys_items]; exact wItems_ge _ _ _
    have c1 : wKeys (d.f 4).l (1 + (d.f 2).s.size) ≤ 1 + (d.f 2).s.size + ((d.f 4).l.map fun x => 1 + x.s.size).sum := by rw [wKeys_items]; exact wItems_le _ _ _
    repeat' (first
    | apply aw_cutAt 6 (stS 55 [(1, .c (.int .i64 3000)), (2, .bx 2 0), (5, .c (.int .i64 (wKeys (d.f 4).l (1 + (d.f 2).s.size) : Int)))] [(2, .box 39 (cellsV Tryd.prog 12 39 d))]) rfl
    | refine k_cut_ret ?_
    | refine k_cut_exit ?_
    | refine k_cut ?_
    | refine aw_seq ?_
    | refine aw_region ?_
    | refine awo_nil ?_
    | refine k_seq ?_
    | refine k_block ?_
    | refine k_scope ?_
    | refine aw_block ?_
    | refine aw_skip ?_
    | refine aw_label ?_
    | refine aw_scope ?_
    | (apply s_pick_t rfl rfl
       · conv => lhs; whnf
       · conv => lhs; whnf
       · first | exact bT1 (by assumption) | exact bT2 (by assumption))
    | (apply s_pick_f rfl rfl
       · conv => lhs; whnf
       · conv => lhs; whnf
       · first | exact bF1 (by assumption) | exact bF2 (by assumption))
    | (apply s_val rfl
       · conv => lhs; whnf
       · conv => lhs; whnf; arg 2; whnf)
    | (apply s_call rfl
       · conv => lhs; whnf
       · conv => lhs; whnf
       · first | fail)
    | (apply s_box rfl rfl rfl rfl
       · conv => lhs; whnf; arg 1; whnf
       · rfl)
    | (apply s_wanted_val rfl
       · conv => lhs; whnf
       · conv => lhs; whnf
       · first | rfl | assumption
       · conv => lhs; whnf; arg 2; whnf)
    | (apply s_wanted_call rfl
       · conv => lhs; whnf
       · conv => lhs; whnf
       · first | rfl | assumption
       · conv => lhs; whnf
       · first | fail)
    | (apply s_skip rfl
       · conv => lhs; whnf
       · conv => lhs; whnf
       · first | rfl | assumption)
    | (apply s_guard_val rfl
       · conv => lhs; whnf
       · conv => lhs; whnf
       · conv => lhs; whnf; arg 2; whnf)
    | (apply s_guard_call rfl
       · conv => lhs; whnf
       · conv => lhs; whnf
       · conv => lhs; whnf
       · first | fail)
    | (apply aw_cond_t
       · conv => lhs; whnf; arg 1; arg 1; whnf)
    | (apply aw_cond_f
       · conv => lhs; whnf; arg 1; arg 1; whnf)
    | (refine aw_cond (by conv => lhs; whnf) ?_ ?_ <;> intro hb)
    | refine aw_ret ?_
    | refine aw_exit ?_
    | refine k_seq_exit ?_
    | refine k_seq_ret ?_
    | refine k_block_ret ?_
    | refine k_block_hit rfl ?_
    | refine k_block_miss rfl ?_
    | refine k_scope_exit ?_
    | refine k_scope_ret ?_
    | refine k_loop_exit ?_
    | refine k_loop_ret ?_
    | refine k_end ?_
    | refine k_end_ret ?_
    | (refine ⟨_, by conv => lhs; whnf; arg 2; whnf, ?_⟩; conv => rhs; whnf)
    | exact trivial
    | intro hg)
    · refine aw_loop (fun j st => ∃ i n, i + j = (d.f 4).l.length ∧ wKeys ((d.f 4).l.drop i) n = wKeys (d.f 4).l (1 + (d.f 2).s.size) ∧ n + (((d.f 4).l.drop i).map fun x => 1 + x.s.size).sum ≤ 1 + (d.f 2).s.size + ((d.f 4).l.map fun x => 1 + x.s.size).sum ∧ Sub (cx EN5 Tryd.prog s w he) st (HWk d n i)) (d.f 4).l.length ⟨0, 1 + (d.f 2).s.size, by omega, rfl, Nat.le_refl _, ?_⟩ ?_
      · exact Sub.live ⟨rfl, rfl, rfl, rfl, trivial⟩ ⟨rfl, trivial⟩
      · rintro j st ⟨i, n, hij, hn, hbd, hs2⟩
        refine aw_sub hs2 ?_
        clear hs2
        have hdr := fun (h : i < (d.f 4).l.length) => drop_gD h
        have hdz := fun (h : (d.f 4).l.length ≤ i) => List.drop_eq_nil_of_le h
        repeat' (first
    | refine k_cut_ret ?_
    | refine k_cut_exit ?_
    | refine k_cut ?_
    | refine aw_seq ?_
    | refine aw_region ?_
    | refine awo_nil ?_
    | refine k_seq ?_
    | refine k_block ?_
    | refine k_scope ?_
    | refine aw_block ?_
    | refine aw_skip ?_
    | refine aw_label ?_
    | refine aw_scope ?_
    | (apply s_pick_t rfl rfl
       · conv => lhs; whnf
       · conv => lhs; whnf
       · first | exact bT1 (by assumption) | exact bT2 (by assumption))
    | (apply s_pick_f rfl rfl
       · conv => lhs; whnf
       · conv => lhs; whnf
       · first | exact bF1 (by assumption) | exact bF2 (by assumption))
    | (apply s_val rfl
       · conv => lhs; whnf
       · conv => lhs; whnf; arg 2; whnf)
    | (apply s_call rfl
       · conv => lhs; whnf
       · conv => lhs; whnf
       · first | fail)
    | (apply s_box rfl rfl rfl rfl
       · conv => lhs; whnf; arg 1; whnf
       · rfl)
    | (apply s_wanted_val rfl
       · conv => lhs; whnf
       · conv => lhs; whnf
       · first | rfl | assumption
       · conv => lhs; whnf; arg 2; whnf)
    | (apply s_wanted_call rfl
       · conv => lhs; whnf
       · conv => lhs; whnf
       · first | rfl | assumption
       · conv => lhs; whnf
       · first | fail)
    | (apply s_skip rfl
       · conv => lhs; whnf
       · conv => lhs; whnf
       · first | rfl | assumption)
    | (apply s_guard_val rfl
       · conv => lhs; whnf
       · conv => lhs; whnf
       · conv => lhs; whnf; arg 2; whnf)
    | (apply s_guard_call rfl
       · conv => lhs; whnf
       · conv => lhs; whnf
       · conv => lhs; whnf
       · first | fail)
    | (apply aw_cond_t
       · conv => lhs; whnf; arg 1; arg 1; whnf)
    | (apply aw_cond_f
       · conv => lhs; whnf; arg 1; arg 1; whnf)
    | (refine aw_cond (by conv => lhs; whnf) ?_ ?_ <;> intro hb)
    | refine aw_ret ?_
    | refine aw_exit ?_
    | refine k_seq_exit ?_
    | refine k_seq_ret ?_
    | refine k_block_ret ?_
    | refine k_block_hit rfl ?_
    | refine k_block_miss rfl ?_
    | refine k_scope_exit ?_
    | refine k_scope_ret ?_
    | refine k_loop_exit ?_
    | refine k_loop_ret ?_
    | refine k_end ?_
    | refine k_end_ret ?_
    | (refine ⟨_, by conv => lhs; whnf; arg 2; whnf, ?_⟩; conv => rhs; whnf)
    | exact trivial
    | intro hg)
        all_goals try (exact (show Tryd.prog.underlying 9 = some TypeDesc.string by kernel_rfl))
        all_goals
          first
            | (have g : i < (d.f 4).l.length := gl_t (by assumption)
               rw [hdr g] at hn hbd
               simp only [List.map_cons, List.sum_cons] at hbd
               first
                 | (have g2 : decide ((n : Int) ≤ 3000) = true := by assumption
                    have g2 : n ≤ 3000 := by have := of_decide_eq_true g2; omega
                    rw [wKeys, if_pos g2] at hn
                    first
                      | (refine k_loop_next (j' := j - 1) (by omega) ⟨i + 1, n + (1 + (gD (d.f 4).l i).s.size), by omega, hn, by omega, Sub.live ⟨rfl, rfl, ?_, rfl, trivial⟩ ⟨rfl, trivial⟩⟩
                         show V.c (.int .i64 ((n : Int) + 1 + ((gD (d.f 4).l i).s.size : Int))) = V.c (.int .i64 ((n + (1 + (gD (d.f 4).l i).s.size) : Nat) : Int))
                         congr 2
                         omega)
                      | (refine i64_in2 ?_
                         show _ ≤ (n : Int) + 1 + ((gD (d.f 4).l i).s.size : Int) ∧ (n : Int) + 1 + ((gD (d.f 4).l i).s.size : Int) ≤ _
                         omega)
                      | exact i64_in2 (by omega)
                      | (refine ixn_ok ?_; exact g))
                 | (have g2 : decide ((n : Int) ≤ 3000) = false := by assumption
                    have g2 : ¬ n ≤ 3000 := fun h => by have := of_decide_eq_false g2; omega
                    rw [wKeys, if_neg g2] at hn
                    subst hn
                    exact Sub.live ⟨rfl, rfl, rfl, trivial⟩ ⟨rfl, trivial⟩))
            | (have g : (d.f 4).l.length ≤ i := gl_f (by assumption)
               rw [hdz g] at hn
               have hn : n = wKeys (d.f 4).l (1 + (d.f 2).s.size) := hn
               subst hn
               exact Sub.live ⟨rfl, rfl, rfl, trivial⟩ ⟨rfl, trivial⟩)
    · refine aw_loop (fun j st => ∃ i n, i + j = (d.f 3).l.length ∧ wItems (wF k) ((d.f 3).l.drop i) n = wF (k + 1) d ∧ n + (((d.f 3).l.drop i).map fun x => wtJ k x).sum ≤ 1000000000 ∧ Sub (cx EN5 Tryd.prog s w he) st (HWi d n i)) (d.f 3).l.length ⟨0, wKeys (d.f 4).l (1 + (d.f 2).s.size), by omega, rfl, by rw [List.drop_zero]; omega, ?_⟩ ?_
      · exact Sub.live ⟨rfl, rfl, rfl, rfl, trivial⟩ ⟨rfl, trivial⟩
      · rintro j st ⟨i, n, hij, hn, hbd, hs2⟩
        refine aw_sub hs2 ?_
        clear hs2
        have hdr := fun (h : i < (d.f 3).l.length) => drop_gD h
        have hdz := fun (h : (d.f 3).l.length ≤ i) => List.drop_eq_nil_of_le h
        have ih2 := fun (h : (decide ((i : Int) < ((d.f 3).l.length : Int)) == true) = true) => ih i (gl_t h)
        repeat' (first
    | refine aw_seq ?_
    | refine aw_region ?_
    | refine awo_nil ?_
    | refine k_seq ?_
    | refine k_block ?_
    | refine k_scope ?_
    | refine aw_block ?_
    | refine aw_skip ?_
    | refine aw_label ?_
    | refine aw_scope ?_
    | (apply s_pick_t rfl rfl
       · conv => lhs; whnf
       · conv => lhs; whnf
       · first | exact bT1 (by assumption) | exact bT2 (by assumption))
    | (apply s_pick_f rfl rfl
       · conv => lhs; whnf
       · conv => lhs; whnf
       · first | exact bF1 (by assumption) | exact bF2 (by assumption))
    | (apply s_val rfl
       · conv => lhs; whnf
       · conv => lhs; whnf; arg 2; whnf)
    | (apply s_call rfl
       · conv => lhs; whnf
       · conv => lhs; whnf
       · first | exact ih2 (by assumption))
    | (apply s_box rfl rfl rfl rfl
       · conv => lhs; whnf; arg 1; whnf
       · rfl)
    | (apply s_wanted_val rfl
       · conv => lhs; whnf
       · conv => lhs; whnf
       · first | rfl | assumption
       · conv => lhs; whnf; arg 2; whnf)
    | (apply s_wanted_call rfl
       · conv => lhs; whnf
       · conv => lhs; whnf
       · first | rfl | assumption
       · conv => lhs; whnf
       · first | exact ih2 (by assumption))
    | (apply s_skip rfl
       · conv => lhs; whnf
       · conv => lhs; whnf
       · first | rfl | assumption)
    | (apply s_guard_val rfl
       · conv => lhs; whnf
       · conv => lhs; whnf
       · conv => lhs; whnf; arg 2; whnf)
    | (apply s_guard_call rfl
       · conv => lhs; whnf
       · conv => lhs; whnf
       · conv => lhs; whnf
       · first | exact ih2 (by assumption))
    | (apply aw_cond_t
       · conv => lhs; whnf; arg 1; arg 1; whnf)
    | (apply aw_cond_f
       · conv => lhs; whnf; arg 1; arg 1; whnf)
    | (refine aw_cond (by conv => lhs; whnf) ?_ ?_ <;> intro hb)
    | refine aw_ret ?_
    | refine aw_exit ?_
    | refine k_seq_exit ?_
    | refine k_seq_ret ?_
    | refine k_block_ret ?_
    | refine k_block_hit rfl ?_
    | refine k_block_miss rfl ?_
    | refine k_scope_exit ?_
    | refine k_scope_ret ?_
    | refine k_loop_exit ?_
    | refine k_loop_ret ?_
    | refine k_end ?_
    | refine k_end_ret ?_
    | (refine ⟨_, by conv => lhs; whnf; arg 2; whnf, ?_⟩; conv => rhs; whnf)
    | exact trivial
    | intro hg)
        all_goals
          first
            | (have g : i < (d.f 3).l.length := gl_t (by assumption)
               rw [hdr g] at hn hbd
               simp only [List.map_cons, List.sum_cons] at hbd
               have hle := wF_le (k := k) (d := gD (d.f 3).l i)
               first
                 | (have g2 : decide ((n : Int) ≤ 3000) = true := by assumption
                    have g2 : n ≤ 3000 := by have := of_decide_eq_true g2; omega
                    rw [wItems, if_pos g2] at hn
                    first
                      | exact k_loop_next (j' := j - 1) (by omega) ⟨i + 1, n + wF k (gD (d.f 3).l i), by omega, hn, by omega, Sub.live ⟨rfl, rfl, rfl, rfl, trivial⟩ ⟨rfl, trivial⟩⟩
                      | exact i64_in2 (by omega)
                      | exact ixn_ok g)
                 | (have g2 : decide ((n : Int) ≤ 3000) = false := by assumption
                    have g2 : ¬ n ≤ 3000 := fun h => by have := of_decide_eq_false g2; omega
                    rw [wItems, if_neg g2] at hn
                    rw [hn]))
            | (have g : (d.f 3).l.length ≤ i := gl_f (by assumption)
               rw [hdz g] at hn
               have hn : n = wF (k + 1) d := hn
               rw [hn])
    · refine i64_in2 ?_
      show _ ≤ 1 + ((d.f 2).s.size : Int) ∧ 1 + ((d.f 2).s.size : Int) ≤ _
      omega
    · exact (show Tryd.prog.underlying 9 = some TypeDesc.string by kernel_rfl)
set_option maxRecDepth 100000 in
theorem large3_ac (k : Nat) (d : D) (h : Dp k d) (hw : wtJ k d ≤ 1000000000) : AC EN5 Tryd.prog 16 [.agg (cellsV Tryd.prog 12 39 d)] (.c (.bool (decide (3000 < wtJ k d)))) := by
  have ih := weight_ac k d h hw
  refine ac_enter 6 Tryd.func16 rfl rfl rfl rfl ?_
  intro s w he
  repeat' (first
    | refine aw_seq ?_
    | refine aw_region ?_
    | refine awo_nil ?_
    | refine k_seq ?_
    | refine k_block ?_
    | refine k_scope ?_
    | refine aw_block ?_
    | refine aw_skip ?_
    | refine aw_label ?_
    | refine aw_scope ?_
    | (apply s_val rfl
       · conv => lhs; whnf
       · conv => lhs; whnf; arg 2; whnf)
    | (apply s_call rfl
       · conv => lhs; whnf
       · conv => lhs; whnf
       · first | exact ih)
    | (apply s_box rfl rfl rfl rfl
       · conv => lhs; whnf; arg 1; whnf
       · rfl)
    | (apply aw_cond_t
       · conv => lhs; whnf; arg 1; arg 1; whnf)
    | (apply aw_cond_f
       · conv => lhs; whnf; arg 1; arg 1; whnf)
    | (refine aw_cond (by conv => lhs; whnf) ?_ ?_ <;> intro hb)
    | refine aw_ret ?_
    | refine aw_exit ?_
    | refine k_seq_exit ?_
    | refine k_seq_ret ?_
    | refine k_block_ret ?_
    | refine k_block_hit rfl ?_
    | refine k_block_miss rfl ?_
    | refine k_scope_exit ?_
    | refine k_scope_ret ?_
    | refine k_loop_exit ?_
    | refine k_loop_ret ?_
    | refine k_end ?_
    | refine k_end_ret ?_
    | (refine ⟨_, by conv => lhs; whnf; arg 2; whnf, ?_⟩; conv => rhs; whnf)
    | exact trivial
    | intro hg)
  refine congrArg (fun b => V.c (.bool b)) ?_
  have hsm := wF_small (k := k) (d := d)
  by_cases h3 : wtJ k d ≤ 3000
  · rw [decide_eq_false (by omega), decide_eq_false (by have := hsm.2 h3; omega)]
  · rw [decide_eq_true (by omega), decide_eq_true (by have : ¬ wF k d ≤ 3000 := fun h => h3 (hsm.1 h); omega)]
noncomputable def HEk (d : D) (i : Nat) : Vst 81 := stS 81 [(2, .bx 2 0), (3, .bx 3 0), (5, .c (.int .i64 (i : Int)))] [(2, .box 39 (cellsV Tryd.prog 12 39 d)), (3, .box 39 (cellsV Tryd.prog 12 39 d))]
noncomputable def HEi (d : D) (i : Nat) : Vst 81 := stS 81 [(2, .bx 2 0), (3, .bx 3 0), (6, .c (.int .i64 (i : Int)))] [(2, .box 39 (cellsV Tryd.prog 12 39 d)), (3, .box 39 (cellsV Tryd.prog 12 39 d))]
set_option maxRecDepth 100000 in
theorem equal_ac : ∀ (k : Nat) (d : D), Dp k d → wtJ k d ≤ 1000000000 → AC EN5 Tryd.prog 22 [.agg (cellsV Tryd.prog 12 39 d), .agg (cellsV Tryd.prog 12 39 d)] (.c (.bool true))
  | 0, _, h, _ => h.elim
  | k + 1, d, h, hw => by
    have hin := wt_in h hw
    have hl := hin.items
    have hk := hin.keys
    have ih := fun i (hi : i < (d.f 3).l.length) => equal_ac k (gD (d.f 3).l i) (h i hi) (hin.at_ i hi)
    refine ac_enter 81 Tryd.func22 rfl rfl rfl rfl ?_
    intro s w he
    repeat' (first
    | apply aw_cutAt 8 (stS 81 [(2, .bx 2 0), (3, .bx 3 0)] [(2, .box 39 (cellsV Tryd.prog 12 39 d)), (3, .box 39 (cellsV Tryd.prog 12 39 d))]) rfl
    | refine k_cut_ret ?_
    | refine k_cut_exit ?_
    | refine k_cut ?_
    | refine aw_seq ?_
    | refine aw_region ?_
    | refine awo_nil ?_
    | refine k_seq ?_
    | refine k_block ?_
    | refine k_scope ?_
    | refine aw_block ?_
    | refine aw_skip ?_
    | refine aw_label ?_
    | refine aw_scope ?_
    | (apply s_pick_t rfl rfl
       · conv => lhs; whnf
       · conv => lhs; whnf
       · first | exact bT1 (by assumption) | exact bT2 (by assumption))
    | (apply s_pick_f rfl rfl
       · conv => lhs; whnf
       · conv => lhs; whnf
       · first | exact bF1 (by assumption) | exact bF2 (by assumption))
    | (apply s_val rfl
       · conv => lhs; whnf
       · conv => lhs; whnf; arg 2; whnf)
    | (apply s_call rfl
       · conv => lhs; whnf
       · conv => lhs; whnf
       · first | fail)
    | (apply s_box rfl rfl rfl rfl
       · conv => lhs; whnf; arg 1; whnf
       · rfl)
    | (apply s_wanted_val rfl
       · conv => lhs; whnf
       · conv => lhs; whnf
       · first | rfl | assumption
       · conv => lhs; whnf; arg 2; whnf)
    | (apply s_wanted_call rfl
       · conv => lhs; whnf
       · conv => lhs; whnf
       · first | rfl | assumption
       · conv => lhs; whnf
       · first | fail)
    | (apply s_skip rfl
       · conv => lhs; whnf
       · conv => lhs; whnf
       · first | rfl | assumption)
    | (apply s_guard_val rfl
       · conv => lhs; whnf
       · conv => lhs; whnf
       · conv => lhs; whnf; arg 2; whnf)
    | (apply s_guard_call rfl
       · conv => lhs; whnf
       · conv => lhs; whnf
       · conv => lhs; whnf
       · first | fail)
    | (apply aw_draw (by kernel_rfl) (by kernel_rfl))
    | apply y_nil
    | (apply y_pick_t rfl rfl
       · conv => lhs; whnf
       · conv => lhs; whnf
       · first | exact bT1 (by assumption) | exact bT2 (by assumption))
    | (apply y_pick_f rfl rfl
       · conv => lhs; whnf
       · conv => lhs; whnf
       · first | exact bF1 (by assumption) | exact bF2 (by assumption))
    | (apply y_val rfl
       · conv => lhs; whnf
       · conv => lhs; whnf; arg 2; whnf)
    | (apply y_call rfl
       · conv => lhs; whnf
       · conv => lhs; whnf
       · first | fail)
    | (apply y_wanted_val rfl
       · conv => lhs; whnf
       · conv => lhs; whnf
       · first | rfl | assumption
       · conv => lhs; whnf; arg 2; whnf)
    | (apply y_wanted_call rfl
       · conv => lhs; whnf
       · conv => lhs; whnf
       · first | rfl | assumption
       · conv => lhs; whnf
       · first | fail)
    | (apply y_skip rfl
       · conv => lhs; whnf
       · conv => lhs; whnf
       · first | rfl | assumption)
    | (apply y_guard_val rfl
       · conv => lhs; whnf
       · conv => lhs; whnf
       · conv => lhs; whnf; arg 2; whnf)
    | (apply y_guard_call rfl
       · conv => lhs; whnf
       · conv => lhs; whnf
       · conv => lhs; whnf
       · first | fail)
    | exact apartB_none
    | exact apartB_nil
    | exact all_nil
    | (show List.all _ _ = true; rfl)
    | (show apartB _ _ = true; rfl)
    | exact ([] : List Nat)
    | exact (1000000 : Nat)
    | (apply aw_cond_t
       · conv => lhs; whnf; arg 1; arg 1; whnf)
    | (apply aw_cond_f
       · conv => lhs; whnf; arg 1; arg 1; whnf)
    | (refine aw_cond (by conv => lhs; whnf) ?_ ?_ <;> intro hb)
    | refine aw_ret ?_
    | refine aw_exit ?_
    | refine k_seq_exit ?_
    | refine k_seq_ret ?_
    | refine k_block_ret ?_
    | refine k_block_hit rfl ?_
    | refine k_block_miss rfl ?_
    | refine k_scope_exit ?_
    | refine k_scope_ret ?_
    | refine k_loop_exit ?_
    | refine k_loop_ret ?_
    | refine k_end ?_
    | refine k_end_ret ?_
    | (refine ⟨_, by conv => lhs; whnf; arg 2; whnf, ?_⟩; conv => rhs; whnf)
    | exact trivial
    | intro hg)
    rotate_left 1
    · refine aw_loop (fun j st => ∃ i, i + j = (d.f 4).l.length ∧ Sub (cx EN5 Tryd.prog s w he) st (HEk d i)) (d.f 4).l.length ⟨0, by omega, ?_⟩ ?_
      · exact Sub.live ⟨rfl, rfl, rfl, trivial⟩ ⟨rfl, rfl, trivial⟩
      · rintro j st ⟨i, hij, hs2⟩
        refine aw_sub hs2 ?_
        clear hs2
        repeat' (first
    | refine k_cut_ret ?_
    | refine k_cut_exit ?_
    | refine k_cut ?_
    | refine aw_seq ?_
    | refine aw_region ?_
    | refine awo_nil ?_
    | refine k_seq ?_
    | refine k_block ?_
    | refine k_scope ?_
    | refine aw_block ?_
    | refine aw_skip ?_
    | refine aw_label ?_
    | refine aw_scope ?_
    | (apply s_pick_t rfl rfl
       · conv => lhs; whnf
       · conv => lhs; whnf
       · first | exact bT1 (by assumption) | exact bT2 (by assumption))
    | (apply s_pick_f rfl rfl
       · conv => lhs; whnf
       · conv => lhs; whnf
       · first | exact bF1 (by assumption) | exact bF2 (by assumption))
    | (apply s_val rfl
       · conv => lhs; whnf
       · conv => lhs; whnf; arg 2; whnf)
    | (apply s_call rfl
       · conv => lhs; whnf
       · conv => lhs; whnf
       · first | fail)
    | (apply s_box rfl rfl rfl rfl
       · conv => lhs; whnf; arg 1; whnf
       · rfl)
    | (apply s_wanted_val rfl
       · conv => lhs; whnf
       · conv => lhs; whnf
       · first | rfl | assumption
       · conv => lhs; whnf; arg 2; whnf)
    | (apply s_wanted_call rfl
       · conv => lhs; whnf
       · conv => lhs; whnf
       · first | rfl | assumption
       · conv => lhs; whnf
       · first | fail)
    | (apply s_skip rfl
       · conv => lhs; whnf
       · conv => lhs; whnf
       · first | rfl | assumption)
    | (apply s_guard_val rfl
       · conv => lhs; whnf
       · conv => lhs; whnf
       · conv => lhs; whnf; arg 2; whnf)
    | (apply s_guard_call rfl
       · conv => lhs; whnf
       · conv => lhs; whnf
       · conv => lhs; whnf
       · first | fail)
    | (apply aw_draw (by kernel_rfl) (by kernel_rfl))
    | apply y_nil
    | (apply y_pick_t rfl rfl
       · conv => lhs; whnf
       · conv => lhs; whnf
       · first | exact bT1 (by assumption) | exact bT2 (by assumption))
    | (apply y_pick_f rfl rfl
       · conv => lhs; whnf
       · conv => lhs; whnf
       · first | exact bF1 (by assumption) | exact bF2 (by assumption))
    | (apply y_val rfl
       · conv => lhs; whnf
       · conv => lhs; whnf; arg 2; whnf)
    | (apply y_call rfl
       · conv => lhs; whnf
       · conv => lhs; whnf
       · first | fail)
    | (apply y_wanted_val rfl
       · conv => lhs; whnf
       · conv => lhs; whnf
       · first | rfl | assumption
       · conv => lhs; whnf; arg 2; whnf)
    | (apply y_wanted_call rfl
       · conv => lhs; whnf
       · conv => lhs; whnf
       · first | rfl | assumption
       · conv => lhs; whnf
       · first | fail)
    | (apply y_skip rfl
       · conv => lhs; whnf
       · conv => lhs; whnf
       · first | rfl | assumption)
    | (apply y_guard_val rfl
       · conv => lhs; whnf
       · conv => lhs; whnf
       · conv => lhs; whnf; arg 2; whnf)
    | (apply y_guard_call rfl
       · conv => lhs; whnf
       · conv => lhs; whnf
       · conv => lhs; whnf
       · first | fail)
    | exact apartB_none
    | exact apartB_nil
    | exact all_nil
    | (show List.all _ _ = true; rfl)
    | (show apartB _ _ = true; rfl)
    | exact ([] : List Nat)
    | exact (1000000 : Nat)
    | (apply aw_cond_t
       · conv => lhs; whnf; arg 1; arg 1; whnf)
    | (apply aw_cond_f
       · conv => lhs; whnf; arg 1; arg 1; whnf)
    | (refine aw_cond (by conv => lhs; whnf) ?_ ?_ <;> intro hb)
    | refine aw_ret ?_
    | refine aw_exit ?_
    | refine k_seq_exit ?_
    | refine k_seq_ret ?_
    | refine k_block_ret ?_
    | refine k_block_hit rfl ?_
    | refine k_block_miss rfl ?_
    | refine k_scope_exit ?_
    | refine k_scope_ret ?_
    | refine k_loop_exit ?_
    | refine k_loop_ret ?_
    | refine k_end ?_
    | refine k_end_ret ?_
    | (refine ⟨_, by conv => lhs; whnf; arg 2; whnf, ?_⟩; conv => rhs; whnf)
    | exact trivial
    | intro hg)
        all_goals
          first
            | (have g : i < (d.f 4).l.length := lt_b (by assumption)
               first
                 | exact k_loop_next (j' := j - 1) (by omega) ⟨i + 1, by omega, Sub.live ⟨rfl, rfl, rfl, trivial⟩ ⟨rfl, rfl, trivial⟩⟩
                 | exact i64_in2 (by omega)
                 | exact ixn_ok g
                 | (exfalso; simp at *))
            | exact Sub.live ⟨rfl, rfl, trivial⟩ ⟨rfl, rfl, trivial⟩
    · refine aw_loop (fun j st => ∃ i, i + j = (d.f 3).l.length ∧ Sub (cx EN5 Tryd.prog s w he) st (HEi d i)) (d.f 3).l.length ⟨0, by omega, ?_⟩ ?_
      · exact Sub.live ⟨rfl, rfl, rfl, trivial⟩ ⟨rfl, rfl, trivial⟩
      · rintro j st ⟨i, hij, hs2⟩
        refine aw_sub hs2 ?_
        clear hs2
        have ih2 := fun (h : decide ((i : Int) < ((d.f 3).l.length : Int)) = true) => ih i (lt_b h)
        repeat' (first
    | refine aw_seq ?_
    | refine aw_region ?_
    | refine awo_nil ?_
    | refine k_seq ?_
    | refine k_block ?_
    | refine k_scope ?_
    | refine aw_block ?_
    | refine aw_skip ?_
    | refine aw_label ?_
    | refine aw_scope ?_
    | (apply s_pick_t rfl rfl
       · conv => lhs; whnf
       · conv => lhs; whnf
       · first | exact bT1 (by assumption) | exact bT2 (by assumption))
    | (apply s_pick_f rfl rfl
       · conv => lhs; whnf
       · conv => lhs; whnf
       · first | exact bF1 (by assumption) | exact bF2 (by assumption))
    | (apply s_val rfl
       · conv => lhs; whnf
       · conv => lhs; whnf; arg 2; whnf)
    | (apply s_call rfl
       · conv => lhs; whnf
       · conv => lhs; whnf
       · first | exact ih2 (by assumption))
    | (apply s_box rfl rfl rfl rfl
       · conv => lhs; whnf; arg 1; whnf
       · rfl)
    | (apply s_wanted_val rfl
       · conv => lhs; whnf
       · conv => lhs; whnf
       · first | rfl | assumption
       · conv => lhs; whnf; arg 2; whnf)
    | (apply s_wanted_call rfl
       · conv => lhs; whnf
       · conv => lhs; whnf
       · first | rfl | assumption
       · conv => lhs; whnf
       · first | exact ih2 (by assumption))
    | (apply s_skip rfl
       · conv => lhs; whnf
       · conv => lhs; whnf
       · first | rfl | assumption)
    | (apply s_guard_val rfl
       · conv => lhs; whnf
       · conv => lhs; whnf
       · conv => lhs; whnf; arg 2; whnf)
    | (apply s_guard_call rfl
       · conv => lhs; whnf
       · conv => lhs; whnf
       · conv => lhs; whnf
       · first | exact ih2 (by assumption))
    | (apply aw_draw (by kernel_rfl) (by kernel_rfl))
    | apply y_nil
    | (apply y_pick_t rfl rfl
       · conv => lhs; whnf
       · conv => lhs; whnf
       · first | exact bT1 (by assumption) | exact bT2 (by assumption))
    | (apply y_pick_f rfl rfl
       · conv => lhs; whnf
       · conv => lhs; whnf
       · first | exact bF1 (by assumption) | exact bF2 (by assumption))
    | (apply y_val rfl
       · conv => lhs; whnf
       · conv => lhs; whnf; arg 2; whnf)
    | (apply y_call rfl
       · conv => lhs; whnf
       · conv => lhs; whnf
       · first | exact ih2 (by assumption))
    | (apply y_wanted_val rfl
       · conv => lhs; whnf
       · conv => lhs; whnf
       · first | rfl | assumption
       · conv => lhs; whnf; arg 2; whnf)
    | (apply y_wanted_call rfl
       · conv => lhs; whnf
       · conv => lhs; whnf
       · first | rfl | assumption
       · conv => lhs; whnf
       · first | exact ih2 (by assumption))
    | (apply y_skip rfl
       · conv => lhs; whnf
       · conv => lhs; whnf
       · first | rfl | assumption)
    | (apply y_guard_val rfl
       · conv => lhs; whnf
       · conv => lhs; whnf
       · conv => lhs; whnf; arg 2; whnf)
    | (apply y_guard_call rfl
       · conv => lhs; whnf
       · conv => lhs; whnf
       · conv => lhs; whnf
       · first | exact ih2 (by assumption))
    | exact apartB_none
    | exact apartB_nil
    | exact all_nil
    | (show List.all _ _ = true; rfl)
    | (show apartB _ _ = true; rfl)
    | exact ([] : List Nat)
    | exact (1000000 : Nat)
    | (apply aw_cond_t
       · conv => lhs; whnf; arg 1; arg 1; whnf)
    | (apply aw_cond_f
       · conv => lhs; whnf; arg 1; arg 1; whnf)
    | (refine aw_cond (by conv => lhs; whnf) ?_ ?_ <;> intro hb)
    | refine aw_ret ?_
    | refine aw_exit ?_
    | refine k_seq_exit ?_
    | refine k_seq_ret ?_
    | refine k_block_ret ?_
    | refine k_block_hit rfl ?_
    | refine k_block_miss rfl ?_
    | refine k_scope_exit ?_
    | refine k_scope_ret ?_
    | refine k_loop_exit ?_
    | refine k_loop_ret ?_
    | refine k_end ?_
    | refine k_end_ret ?_
    | (refine ⟨_, by conv => lhs; whnf; arg 2; whnf, ?_⟩; conv => rhs; whnf)
    | exact trivial
    | intro hg)
        all_goals
          (have g : i < (d.f 3).l.length := lt_b (by assumption)
           first
             | exact k_loop_next (j' := j - 1) (by omega) ⟨i + 1, by omega, Sub.live ⟨rfl, rfl, rfl, trivial⟩ ⟨rfl, rfl, trivial⟩⟩
             | exact i64_in2 (by omega)
             | exact ixn_ok g)
    all_goals
      exfalso
      simp at *
end Go.Proofs.YtjhjleanihgopaaDoor
namespace Go.Proofs.YtjhjleanihgopaaDoor
open Go.RowKit
attribute [local irreducible] wpList Calls Code.wp
set_option maxRecDepth 100000 in
theorem awo_sub {X : Cx} {nn : Nat} {st st' : Vst nn} {ops : Array Oper} {l : List Oper} {KK : Vst nn → Prop} (hs : Sub X st st') (h : AWo X ops l st' KK) : AWo X ops l st KK := fun s w a hI => by
  obtain ⟨s', hI'⟩ := hs s w a hI
  exact h s' w a hI'
attribute [local irreducible] AW AWo OpOk seqK blockK scopeK loopK endK endKB AC ACB absLex absLexG Yld YldG Sub
section
variable {X : Cx} {nn : Nat} {st : Vst nn} {o : Oper} {ops : Array Oper} {l : List Oper} {d : Option Tmp} {KK : Vst nn → Prop}
set_option maxRecDepth 100000 in
/-- a call that writes to a builder -/
theorem s_bcall {f : FuncId} {m : Nat} {vs az : List V} {tb tu : TypeId} {bl bl' : List UInt8} {r : V} (hg : o.guard = none) (hd : o.dst = d) (h : act1 X.P st.rs (ev st) o.op = .call f vs) (hv : vs = .bx m 0 :: az) (hr : st.rs m = some (.bld tb tu bl))
    (hc : ACB X.e X.P f (.bx (pn 0) 0 :: az) [.bld tb tu bl] r [.bld tb tu bl']) (haz : ∀ φ, renL φ az = az) (hrr : ∀ φ, renV φ r = r)
    (hK : AWo X ops l ((st.res m (.bld tb tu bl')).put d r) KK) : AWo X ops (o :: l) st KK := by
  subst hv
  refine s_callB [m] hg hd h hc (by simp) (by simp only [renL, renV, φin_one, haz]) (by simp [hr, renR]) ?_
  have e : ([Res.bld tb tu bl'].map (renR (φout [m]))) = [Res.bld tb tu bl'] := rfl
  rw [e, resN_one, hrr]
  exact hK
set_option maxRecDepth 100000 in
theorem res_res {m : Nat} {a b : Res} : (st.res m a).res m b = st.res m b := by
  unfold Vst.res
  congr 1
  funext q
  unfold updR
  by_cases h : q = m <;> simp [h]
set_option maxRecDepth 100000 in
/-- the first call that writes to a builder -/
theorem s_bcall0 {f : FuncId} {m : Nat} {vs az : List V} {tb tu : TypeId} {bl' : List UInt8} {r : V} (hg : o.guard = none) (hd : o.dst = d) (h0 : act1 X.P st.rs (ev st) o.op = .call f vs) (hv : vs = .bx m 0 :: az) (hr : st.rs m = some (.box tb [.c (.pointer none), .c (.slice none 0 0)]))
    (hc : ACB X.e X.P f (.bx (pn 0) 0 :: az) [.bld tb tu []] r [.bld tb tu bl']) (h : act1 X.P (st.res m (.bld tb tu [])).rs (ev (st.res m (.bld tb tu []))) o.op = .call f vs) (haz : ∀ φ, renL φ az = az) (hrr : ∀ φ, renV φ r = r)
    (hK : AWo X ops l ((st.res m (.bld tb tu bl')).put d r) KK) : AWo X ops (o :: l) st KK := by
  refine awo_sub (Sub.bld (e := tu) hr) ?_
  refine s_bcall hg hd h hv (by simp [Vst.res, updR]) hc haz hrr ?_
  rw [res_res]
  exact hK
set_option maxRecDepth 100000 in
/-- what a builder holds -/
theorem s_bs {m : Nat} {vs : List V} {tb tu : TypeId} {bl : List UInt8} (hg : o.guard = none) (hd : o.dst = d) (h : act1 X.P st.rs (ev st) o.op = .call 35 vs) (hv : vs = [.bx m 0]) (hr : st.rs m = some (.bld tb tu bl)) (ht : tb = 78 ∧ tu = 5) (hP : X.P = Tryd.prog)
    (hK : AWo X ops l (st.put d (.c (.string ⟨bl.toArray⟩))) KK) (hlen : bl.length ≤ maxLen) : AWo X ops (o :: l) st KK := by
  obtain ⟨rfl, rfl⟩ := ht
  have hc := string_acb (e := X.e) bl hlen
  rw [← hP] at hc
  refine s_bcall hg hd h hv hr hc (fun _ => rfl) (fun _ => rfl) ?_
  rw [res_same hr]
  exact hK
end
set_option maxRecDepth 100000 in
theorem seqP_len {h : Nat → List UInt8} {f : Nat → Bool × List UInt8} {g : Nat → Nat} : ∀ {n : Nat}, (∀ i, i < n → (h i).length + (f i).2.length ≤ g i) → (seqP h f n).2.length ≤ sumN g n
  | 0, _ => Nat.le_refl _
  | n + 1, hh => by
    have h1 := seqP_len (h := h) (f := f) (n := n) fun i hi => hh i (by omega)
    have h2 := hh n (by omega)
    rw [sumN_succ]
    by_cases e : (seqP h f n).1 = true
    · rw [seqP_go e, List.length_append, List.length_append]; omega
    · rw [seqP, if_neg e]; omega
set_option maxRecDepth 100000 in
theorem quoteU_length (l : List UInt8) : (quoteU l).length ≤ 6 * l.length + 2 := by
  have := escL_length l
  simp only [quoteU, List.length_append, List.length_cons, List.length_nil]; omega
set_option maxRecDepth 100000 in
theorem itoa_length {n : Int} (h0 : -9223372036854775808 ≤ n) (h1 : n ≤ 9223372036854775807) : (Lib.itoa n).length ≤ 21 := by
  unfold Lib.itoa
  split
  · have := dec_len (u := n.natAbs) (by omega)
    simp only [List.length_cons]; omega
  · have := dec_len (u := n.toNat) (by omega)
    omega
set_option maxRecDepth 100000 in
theorem leafU_len (d : D) (hi : -9223372036854775808 ≤ (d.f 1).n ∧ (d.f 1).n ≤ 9223372036854775807) : (leafU d).length + 1 ≤ 32 * (1 + (d.f 2).s.size) := by
  unfold leafU
  split
  · simp; omega
  split
  · split <;> simp <;> omega
  split
  · have := itoa_length hi.1 hi.2
    omega
  · have := quoteU_length (d.f 2).s.data.toList
    have e : (d.f 2).s.data.toList.length = (d.f 2).s.size := rfl
    omega
set_option maxRecDepth 100000 in
theorem sepU_len (d : D) (i : Nat) : (sepU d i).length ≤ 1 + (if (d.f 0).n = 6 then 6 * (keyU d i).length + 3 else 0) := by
  unfold sepU
  rw [List.length_append]
  have h1 : (if 0 < i then [(44 : UInt8)] else []).length ≤ 1 := by split <;> simp
  have := quoteU_length (keyU d i)
  by_cases h6 : (d.f 0).n = 6
  · rw [if_pos h6, if_pos h6, List.length_append]; simp only [List.length_cons, List.length_nil]; omega
  · rw [if_neg h6, if_neg h6]; simp only [List.length_nil]; omega
set_option maxRecDepth 100000 in
theorem kw_sum (l : List D) : kwD l = sumN (fun i => 1 + (gD l i).s.size) l.length := by
  unfold kwD; rw [← sum_gD]
set_option maxRecDepth 100000 in
theorem sumN_add (g g' : Nat → Nat) : ∀ n, sumN (fun i => g i + g' i) n = sumN g n + sumN g' n
  | 0 => rfl
  | n + 1 => by rw [sumN_succ, sumN_succ, sumN_succ, sumN_add g g' n]; omega
set_option maxRecDepth 100000 in
theorem sumN_mul (c : Nat) (g : Nat → Nat) : ∀ n, sumN (fun i => c * g i) n = c * sumN g n
  | 0 => rfl
  | n + 1 => by rw [sumN_succ, sumN_succ, sumN_mul c g n, Nat.mul_add]
set_option maxRecDepth 100000 in
theorem keyU_len (d : D) (i : Nat) : (keyU d i).length = (gD (d.f 4).l i).s.size := rfl
/-- room for element i -/
def gW (k : Nat) (d : D) (i : Nat) : Nat := 32 * wtJ k (gD (d.f 3).l i) + (if (d.f 0).n = 6 then 32 * (1 + (gD (d.f 4).l i).s.size) else 0)
set_option maxRecDepth 100000 in
theorem gW_sum {k : Nat} {d : D} (h6 : (d.f 0).n = 6 → (d.f 4).l.length = (d.f 3).l.length) : sumN (gW k d) (d.f 3).l.length ≤ 32 * (kwD (d.f 4).l + sumN (fun i => wtJ k (gD (d.f 3).l i)) (d.f 3).l.length) := by
  by_cases e6 : (d.f 0).n = 6
  · have : gW k d = fun i => 32 * wtJ k (gD (d.f 3).l i) + 32 * (1 + (gD (d.f 4).l i).s.size) := by funext i; unfold gW; rw [if_pos e6]
    rw [this, sumN_add, sumN_mul, sumN_mul, kw_sum, h6 e6]
    omega
  · have : gW k d = fun i => 32 * wtJ k (gD (d.f 3).l i) := by funext i; unfold gW; rw [if_neg e6]; rfl
    rw [this, sumN_mul]
    omega
set_option maxRecDepth 100000 in
theorem sep_gW (k : Nat) (d : D) (i : Nat) : (sepU d i).length + 32 * wtJ k (gD (d.f 3).l i) ≤ gW k d i + 1 := by
  have h1 := sepU_len d i
  rw [keyU_len] at h1
  unfold gW
  by_cases e6 : (d.f 0).n = 6
  · rw [if_pos e6] at h1 ⊢; omega
  · rw [if_neg e6] at h1 ⊢; omega
set_option maxRecDepth 100000 in
/-- what is written is short -/
theorem prP_len : ∀ {k : Nat} {d : D}, Dp k d → intsJ k d → (prP k d).2.length + 1 ≤ 32 * wtJ k d
  | 0, _, h, _ => h.elim
  | k + 1, d, h, hi => by
    rw [wt_eq]
    have hlen : ∀ i, i < (d.f 3).l.length → (prP k (gD (d.f 3).l i)).2.length + 1 ≤ 32 * wtJ k (gD (d.f 3).l i) := fun i hil => prP_len (h i hil) (hi.2 i hil)
    unfold prP
    split
    · simp only [List.length_nil]; omega
    split
    · have := leafU_len d hi.1
      dsimp only
      omega
    split
    · simp only [List.length_nil]; omega
    rename_i h0 h4 h6
    have hy : (seqP (sepU d) (fun i => prP k (gD (d.f 3).l i)) (d.f 3).l.length).2.length ≤ 32 * (kwD (d.f 4).l + sumN (fun i => wtJ k (gD (d.f 3).l i)) (d.f 3).l.length) := by
      refine Nat.le_trans (seqP_len (g := gW k d) fun i hil => ?_) (gW_sum fun e6 => ?_)
      · have h1 := sep_gW k d i
        have h2 := hlen i hil
        omega
      · by_cases hh : (d.f 4).l.length = (d.f 3).l.length
        · exact hh
        · exact (h6 ⟨e6, hh⟩).elim
    dsimp only
    have e1 : (if (d.f 0).n = 6 then [(123 : UInt8)] else [91]).length = 1 := by split <;> rfl
    have e2 : (if (d.f 0).n = 6 then [(125 : UInt8)] else [93]).length = 1 := by split <;> rfl
    split
    · dsimp only
      rw [List.length_append, List.length_append, e1, e2]; omega
    · dsimp only
      rw [List.length_append, e1]; omega
def pq (k : Nat) (d : D) (i : Nat) : Bool × List UInt8 := seqP (sepU d) (fun i => prP k (gD (d.f 3).l i)) i
set_option maxRecDepth 100000 in
theorem pr_list {k : Nat} {d : D} (h : (d.f 0).n = 5) : prP (k + 1) d = if (pq k d (d.f 3).l.length).1 = true then (true, [91] ++ (pq k d (d.f 3).l.length).2 ++ [93]) else (false, [91] ++ (pq k d (d.f 3).l.length).2) := by
  unfold prP
  rw [if_neg (by omega), if_neg (by omega), if_neg (by omega)]
  dsimp only
  rw [if_neg (show ¬ (d.f 0).n = 6 by omega), if_neg (show ¬ (d.f 0).n = 6 by omega)]
  rfl
set_option maxRecDepth 100000 in
theorem pr_obj {k : Nat} {d : D} (h : (d.f 0).n = 6) (hl : (d.f 4).l.length = (d.f 3).l.length) : prP (k + 1) d = if (pq k d (d.f 3).l.length).1 = true then (true, [123] ++ (pq k d (d.f 3).l.length).2 ++ [125]) else (false, [123] ++ (pq k d (d.f 3).l.length).2) := by
  unfold prP
  rw [if_neg (by omega), if_neg (by omega), if_neg (fun h => h.2 hl)]
  dsimp only
  rw [if_pos h, if_pos h]
  rfl
set_option maxRecDepth 100000 in
theorem pr_bad {k : Nat} {d : D} (h : (d.f 0).n = 6) (hl : ¬ (d.f 4).l.length = (d.f 3).l.length) : prP (k + 1) d = (false, []) := by
  unfold prP
  rw [if_neg (by omega), if_neg (by omega), if_pos ⟨h, hl⟩]
set_option maxRecDepth 100000 in
theorem pr_leaf {k : Nat} {d : D} (h : 0 ≤ (d.f 0).n ∧ (d.f 0).n ≤ 4) : prP (k + 1) d = (true, leafU d) := by
  unfold prP
  rw [if_neg (by omega), if_pos h.2]
set_option maxRecDepth 100000 in
theorem pr_none {k : Nat} {d : D} (h : (d.f 0).n < 0 ∨ 6 < (d.f 0).n) : prP (k + 1) d = (false, []) := by
  unfold prP
  rw [if_pos h]
set_option maxRecDepth 100000 in
theorem leaf0 {d : D} (h : (d.f 0).n = 0) : leafU d = [110, 117, 108, 108] := by unfold leafU; rw [if_pos h]
set_option maxRecDepth 100000 in
theorem leaf1f {d : D} (h : (d.f 0).n = 1) (h1 : (d.f 1).n = 0) : leafU d = [102, 97, 108, 115, 101] := by unfold leafU; rw [if_neg (by omega), if_pos h, if_pos h1]
set_option maxRecDepth 100000 in
theorem leaf1t {d : D} (h : (d.f 0).n = 1) (h1 : ¬ (d.f 1).n = 0) : leafU d = [116, 114, 117, 101] := by unfold leafU; rw [if_neg (by omega), if_pos h, if_neg h1]
set_option maxRecDepth 100000 in
theorem leaf2 {d : D} (h : (d.f 0).n = 2) : leafU d = Lib.itoa (d.f 1).n := by unfold leafU; rw [if_neg (by omega), if_neg (by omega), if_pos h]
set_option maxRecDepth 100000 in
theorem leaf34 {d : D} (h : ¬ (d.f 0).n = 0) (h1 : ¬ (d.f 0).n = 1) (h2 : ¬ (d.f 0).n = 2) : leafU d = quoteU (d.f 2).s.data.toList := by unfold leafU; rw [if_neg h, if_neg h1, if_neg h2]
noncomputable def HpL (d : D) (bl : List UInt8) (i : Nat) : Vst 101 := stS 101 [(0, .bx (pn 0) 0), (44, .sl 39 (d.f 3).l), (45, .c (.int .i64 ((d.f 3).l.length : Int))), (46, .c (.int .i64 (i : Int)))] [(pn 0, .bld 78 5 bl)]
noncomputable def HpO (d : D) (bl : List UInt8) (i : Nat) : Vst 101 := stS 101 [(0, .bx (pn 0) 0), (3, .bx 3 0), (74, .sl 39 (d.f 3).l), (75, .c (.int .i64 ((d.f 3).l.length : Int))), (76, .c (.int .i64 (i : Int)))] [(pn 0, .bld 78 5 bl), (3, .box 39 (cellsV Tryd.prog 12 39 d))]
set_option maxRecDepth 100000 in
theorem pq_go {k : Nat} {d : D} {i : Nat} (h : (pq k d i).1 = true) : pq k d (i + 1) = ((prP k (gD (d.f 3).l i)).1, (pq k d i).2 ++ sepU d i ++ (prP k (gD (d.f 3).l i)).2) := seqP_go h
set_option maxRecDepth 100000 in
theorem pq_stop {k : Nat} {d : D} {i n : Nat} (h : (pq k d i).1 = false) (hn : i ≤ n) : pq k d n = pq k d i := by
  rw [show n = i + (n - i) by omega]; exact seqP_stop h _
set_option maxRecDepth 100000 in
theorem sep5 {d : D} (h : (d.f 0).n = 5) (i : Nat) : sepU d i = if 0 < i then [44] else [] := by
  unfold sepU; rw [if_neg (show ¬ (d.f 0).n = 6 by omega), List.append_nil]
set_option maxRecDepth 100000 in
theorem pq_len {k : Nat} {d : D} (h : Dp (k + 1) d) (hi : intsJ (k + 1) d) {i : Nat} (hn : i ≤ (d.f 3).l.length) : (pq k d i).2.length ≤ sumN (gW k d) i :=
  seqP_len fun q hq => by
    have h1 := sep_gW k d q
    have h2 := prP_len (h q (by omega)) (hi.2 q (by omega))
    omega
set_option maxRecDepth 100000 in
theorem pq_room {k : Nat} {d : D} (h : Dp (k + 1) d) (hi : intsJ (k + 1) d) (h6 : (d.f 0).n = 6 → (d.f 4).l.length = (d.f 3).l.length) {i : Nat} (hn : i < (d.f 3).l.length) : (pq k d i).2.length + (sepU d i).length + 32 * wtJ k (gD (d.f 3).l i) + 31 ≤ 32 * wtJ (k + 1) d := by
  have h1 := pq_len h hi (Nat.le_of_lt hn)
  have h2 := sep_gW k d i
  have h3 := sumN_le (g := gW k d) (show i + 1 ≤ (d.f 3).l.length from hn)
  rw [sumN_succ] at h3
  have h4 := gW_sum (k := k) h6
  rw [wt_eq]
  omega
set_option maxRecDepth 100000 in
theorem pq_end {k : Nat} {d : D} (h : Dp (k + 1) d) (hi : intsJ (k + 1) d) (h6 : (d.f 0).n = 6 → (d.f 4).l.length = (d.f 3).l.length) {i : Nat} (hn : i ≤ (d.f 3).l.length) : (pq k d i).2.length + 32 ≤ 32 * wtJ (k + 1) d := by
  have h1 := pq_len h hi hn
  have h3 := sumN_le (g := gW k d) hn
  have h4 := gW_sum (k := k) h6
  rw [wt_eq]
  omega
set_option maxRecDepth 100000 in
theorem pr_go {k : Nat} {d : D} {i : Nat} (hn : i < (d.f 3).l.length) (h : (pq k d i).1 = true) (hf : (!(prP k (gD (d.f 3).l i)).1) = true) (h6 : (d.f 0).n = 5 ∨ ((d.f 0).n = 6 ∧ (d.f 4).l.length = (d.f 3).l.length)) :
    prP (k + 1) d = (false, (if (d.f 0).n = 6 then [123] else [91]) ++ ((pq k d i).2 ++ sepU d i ++ (prP k (gD (d.f 3).l i)).2)) := by
  have e := pq_go h
  have hf : (prP k (gD (d.f 3).l i)).1 = false := by simpa using hf
  have e1 : (pq k d (i + 1)).1 = false := by rw [e]; exact hf
  have e2 := pq_stop e1 (show i + 1 ≤ (d.f 3).l.length from hn)
  rcases h6 with h5 | ⟨h6, hl⟩
  · rw [pr_list h5, e2, e1, e, if_neg (by decide), if_neg (by omega)]
  · rw [pr_obj h6 hl, e2, e1, e, if_neg (by decide), if_pos h6]
set_option maxRecDepth 100000 in
theorem pr_end {k : Nat} {d : D} (h : (pq k d (d.f 3).l.length).1 = true) (h6 : (d.f 0).n = 5 ∨ ((d.f 0).n = 6 ∧ (d.f 4).l.length = (d.f 3).l.length)) :
    prP (k + 1) d = (true, (if (d.f 0).n = 6 then [123] else [91]) ++ (pq k d (d.f 3).l.length).2 ++ (if (d.f 0).n = 6 then [125] else [93])) := by
  rcases h6 with h5 | ⟨h6, hl⟩
  · rw [pr_list h5, if_pos h, if_neg (by omega), if_neg (by omega)]
  · rw [pr_obj h6 hl, if_pos h, if_pos h6, if_pos h6]
set_option maxRecDepth 100000 in
theorem sep6 {d : D} (h : (d.f 0).n = 6) (i : Nat) : sepU d i = (if 0 < i then [44] else []) ++ (quoteU (keyU d i) ++ [58]) := by
  unfold sepU; rw [if_pos h]
set_option maxHeartbeats 4000000 in
set_option maxRecDepth 100000 in
theorem printP_core (k : Nat) (d : D) (bl : List UInt8) (h : Dp (k + 1) d) (hi : intsJ (k + 1) d) (hw : wtJ (k + 1) d ≤ 1000000) (hb : bl.length + 32 * wtJ (k + 1) d ≤ 100000000)
    (ih : ∀ i bl, i < (d.f 3).l.length → bl.length + 32 * wtJ k (gD (d.f 3).l i) ≤ 100000000 → ACB EN5 Tryd.prog 34 [.bx (pn 0) 0, .agg (cellsV Tryd.prog 12 39 (gD (d.f 3).l i))] [.bld 78 5 bl] (.c (.bool (prP k (gD (d.f 3).l i)).1)) [.bld 78 5 (bl ++ (prP k (gD (d.f 3).l i)).2)]) :
    ACB EN5 Tryd.prog 34 [.bx (pn 0) 0, .agg (cellsV Tryd.prog 12 39 d)] [.bld 78 5 bl] (.c (.bool (prP (k + 1) d).1)) [.bld 78 5 (bl ++ (prP (k + 1) d).2)] := by
  have hin := wt_in h hw
  have htx := hin.text
  have hitl := hin.items
  have hq := quoteP_ac (d.f 2).s (by omega)
  have hdc := decimalP_ac (d.f 1).n
  have hi1 := itoa_length hi.1.1 hi.1.2
  have hq1 := quoteU_length (d.f 2).s.data.toList
  have hq2 : (d.f 2).s.data.toList.length = (d.f 2).s.size := rfl
  refine acb_enter (fn := Tryd.f34) 101 Tryd.func34 rfl rfl ?_
  intro pas w0 w he hpp
  repeat' (first
    | (apply s_ws rfl
       · conv => lhs; whnf
       · conv => lhs; whnf
       · rfl
       · conv => lhs; whnf; arg 1; whnf
       · rfl)
    | (apply s_wb rfl
       · conv => lhs; whnf
       · conv => lhs; whnf
       · rfl
       · conv => lhs; whnf; arg 1; whnf
       · rfl
       · rfl)
    | refine aw_seq ?_
    | refine aw_region ?_
    | refine awo_nil ?_
    | refine k_seq ?_
    | refine k_block ?_
    | refine k_scope ?_
    | refine aw_block ?_
    | refine aw_skip ?_
    | refine aw_label ?_
    | refine aw_scope ?_
    | (apply s_val rfl
       · conv => lhs; whnf
       · conv => lhs; whnf; arg 2; whnf)
    | (apply s_call rfl
       · conv => lhs; whnf
       · conv => lhs; whnf
       · first | exact hq | exact hdc)
    | (apply s_box rfl rfl rfl rfl
       · conv => lhs; whnf; arg 1; whnf
       · rfl)
    | (apply s_alloc rfl rfl rfl rfl
       · conv => lhs; whnf; arg 1; whnf
       · rfl)
    | (apply s_store rfl rfl rfl
       · conv => lhs; whnf
       · conv => lhs; whnf; arg 1; whnf
       · conv => lhs; whnf; arg 1; whnf
       · exact ⟨by kernel_rfl, by kernel_rfl⟩
       · rfl)
    | (apply aw_cond_t
       · conv => lhs; whnf; arg 1; arg 1; whnf)
    | (apply aw_cond_f
       · conv => lhs; whnf; arg 1; arg 1; whnf)
    | (refine aw_cond (by conv => lhs; whnf) ?_ ?_ <;> intro hb)
    | refine aw_ret ?_
    | refine aw_exit ?_
    | refine k_seq_exit ?_
    | refine k_seq_ret ?_
    | refine k_block_ret ?_
    | refine k_block_hit rfl ?_
    | refine k_block_miss rfl ?_
    | refine k_scope_exit ?_
    | refine k_scope_ret ?_
    | refine k_loop_exit ?_
    | refine k_loop_ret ?_
    | refine k_endB ⟨?_, ?_⟩
    | refine k_endB_ret ⟨?_, ?_⟩
    | exact (rfl : _ = V.tup [])
    | (refine ⟨_, by conv => lhs; whnf; arg 2; whnf, ?_⟩; conv => rhs; whnf)
    | exact trivial
    | intro hg)
  all_goals try (simp only [beq_iff_eq, beq_eq_false_iff_ne, ne_eq, bne_iff_ne, Bool.not_eq_true', Nat.zero_add, Nat.reduceAdd] at *)
  all_goals try
    first
      | omega
      | (show V.c _ = V.c _; rw [pr_leaf (by omega)])
      | (show V.c _ = V.c _; rw [pr_none (by omega)])
      | (show V.c _ = V.c _; rw [pr_bad (by omega) (by omega)])
      | (rw [pr_leaf (by omega), leaf0 (by omega)]; exact ⟨rfl, trivial⟩)
      | (rw [pr_leaf (by omega), leaf1f (by omega) (by omega)]; exact ⟨rfl, trivial⟩)
      | (rw [pr_leaf (by omega), leaf1t (by omega) (by omega)]; exact ⟨rfl, trivial⟩)
      | (rw [pr_leaf (by omega), leaf2 (by omega)]; exact ⟨rfl, trivial⟩)
      | (rw [pr_leaf (by omega), leaf34 (by omega) (by omega) (by omega)]; exact ⟨rfl, trivial⟩)
      | (rw [pr_none (by omega)]; exact ⟨by rw [List.append_nil]; rfl, trivial⟩)
      | (rw [pr_bad (by omega) (by omega)]; exact ⟨by rw [List.append_nil]; rfl, trivial⟩)
      | exact Nat.le_trans (Nat.add_le_add_left (show ByteArray.size _ ≤ 5 by decide) _) (by omega)
      | (rw [bs_size]; omega)
  · have h5 : (d.f 0).n = 5 := by omega
    refine aw_loop (fun j st => ∃ i, i + j = (d.f 3).l.length ∧ (pq k d i).1 = true ∧ Sub ⟨Tryd.prog, pas, w0, w, EN5, he, hpp⟩ st (HpL d (bl ++ [91] ++ (pq k d i).2) i)) (d.f 3).l.length ⟨0, by omega, rfl, ?_⟩ ?_
    · exact Sub.live ⟨rfl, rfl, rfl, rfl, trivial⟩ ⟨by rw [show (pq k d 0).2 = [] from rfl, List.append_nil]; rfl, trivial⟩
    · rintro j st ⟨i, hij, hpi, hs2⟩
      refine aw_sub hs2 ?_
      clear hs2
      have hend := pq_end (i := i) h hi (fun e6 => by omega) (by omega)
      have hl0 : (bl ++ [91] ++ (pq k d i).2).length = bl.length + 1 + (pq k d i).2.length := by simp; omega
      have ihA := fun (g : decide ((i : Int) < ((d.f 3).l.length : Int)) = true) (g0 : decide ((i : Int) > 0) = true) => ih i (bl ++ [91] ++ (pq k d i).2 ++ [44]) (lt_b g) (by
        have hro := pq_room h hi (fun e6 => by omega) (lt_b g)
        have g0 : 0 < i := by have := of_decide_eq_true g0; omega
        rw [sep5 h5, if_pos g0] at hro
        rw [List.length_append, hl0]
        simp only [List.length_cons, List.length_nil] at hro ⊢
        omega)
      have ihB := fun (g : decide ((i : Int) < ((d.f 3).l.length : Int)) = true) (_ : decide ((i : Int) > 0) = false) => ih i (bl ++ [91] ++ (pq k d i).2) (lt_b g) (by
        have hro := pq_room h hi (fun e6 => by omega) (lt_b g)
        rw [hl0]
        omega)
      repeat' (first
    | (apply s_wb rfl
       · conv => lhs; whnf
       · conv => lhs; whnf
       · rfl
       · conv => lhs; whnf; arg 1; whnf
       · rfl
       · rfl)
    | (apply s_bcall rfl
       · conv => lhs; whnf
       · conv => lhs; whnf
       · rfl
       · conv => lhs; whnf; arg 1; whnf
       · first | exact ihA (by assumption) (by assumption) | exact ihB (by assumption) (by assumption)
       · exact fun _ => rfl
       · exact fun _ => rfl)
    | refine aw_seq ?_
    | refine aw_region ?_
    | refine awo_nil ?_
    | refine k_seq ?_
    | refine k_block ?_
    | refine k_scope ?_
    | refine aw_block ?_
    | refine aw_skip ?_
    | refine aw_label ?_
    | refine aw_scope ?_
    | (apply s_val rfl
       · conv => lhs; whnf
       · conv => lhs; whnf; arg 2; whnf)
    | (apply s_call rfl
       · conv => lhs; whnf
       · conv => lhs; whnf
       · first | fail)
    | (apply s_box rfl rfl rfl rfl
       · conv => lhs; whnf; arg 1; whnf
       · rfl)
    | (apply s_alloc rfl rfl rfl rfl
       · conv => lhs; whnf; arg 1; whnf
       · rfl)
    | (apply s_store rfl rfl rfl
       · conv => lhs; whnf
       · conv => lhs; whnf; arg 1; whnf
       · conv => lhs; whnf; arg 1; whnf
       · exact ⟨by kernel_rfl, by kernel_rfl⟩
       · rfl)
    | (apply aw_cond_t
       · conv => lhs; whnf; arg 1; arg 1; whnf)
    | (apply aw_cond_f
       · conv => lhs; whnf; arg 1; arg 1; whnf)
    | (refine aw_cond (by conv => lhs; whnf) ?_ ?_ <;> intro hb)
    | refine aw_ret ?_
    | refine aw_exit ?_
    | refine k_seq_exit ?_
    | refine k_seq_ret ?_
    | refine k_block_ret ?_
    | refine k_block_hit rfl ?_
    | refine k_block_miss rfl ?_
    | refine k_scope_exit ?_
    | refine k_scope_ret ?_
    | refine k_loop_exit ?_
    | refine k_loop_ret ?_
    | refine k_endB ⟨?_, ?_⟩
    | refine k_endB_ret ⟨?_, ?_⟩
    | exact (rfl : _ = V.tup [])
    | (refine ⟨_, by conv => lhs; whnf; arg 2; whnf, ?_⟩; conv => rhs; whnf)
    | exact trivial
    | intro hg)
      all_goals try (simp only [Nat.zero_add, Nat.reduceAdd] at *)
      all_goals
        first
          | (have g : i < (d.f 3).l.length := lt_b (by assumption)
             have hi0 : (if 0 < i then [(44 : UInt8)] else []) = [44] ∨ (if 0 < i then [(44 : UInt8)] else []) = [] := by split <;> simp
             first
               | (have hf : (!(prP k (gD (d.f 3).l i)).1) = true := by assumption
                  have hP := pr_go g hpi hf (.inl h5)
                  rw [sep5 h5, if_neg (show ¬ (d.f 0).n = 6 by omega)] at hP
                  first
                    | (have g0 : decide ((i : Int) > 0) = true := by assumption
                       have g0 : 0 < i := by have := of_decide_eq_true g0; omega
                       rw [if_pos g0] at hP
                       first
                         | (show V.c _ = V.c _; rw [hP])
                         | (rw [hP]; exact ⟨by simp only [List.append_assoc]; rfl, trivial⟩))
                    | (have g0 : decide ((i : Int) > 0) = false := by assumption
                       have g0 : ¬ 0 < i := by have := of_decide_eq_false g0; omega
                       rw [if_neg g0] at hP
                       first
                         | (show V.c _ = V.c _; rw [hP])
                         | (rw [hP]; exact ⟨by simp only [List.append_assoc, List.nil_append, List.append_nil]; rfl, trivial⟩)))
               | (have hf : (!(prP k (gD (d.f 3).l i)).1) = false := by assumption
                  have hf2 : (prP k (gD (d.f 3).l i)).1 = true := by simpa using hf
                  have e := pq_go hpi
                  rw [sep5 h5] at e
                  first
                    | exact i64_in2 (by omega)
                    | (have g0 : decide ((i : Int) > 0) = true := by assumption
                       have g0 : 0 < i := by have := of_decide_eq_true g0; omega
                       rw [if_pos g0] at e
                       refine k_loop_next (j' := j - 1) (by omega) ⟨i + 1, by omega, by rw [e]; exact hf2, Sub.live ⟨rfl, rfl, rfl, rfl, trivial⟩ ⟨?_, trivial⟩⟩
                       rw [e]
                       simp only [List.append_assoc]; rfl)
                    | (have g0 : decide ((i : Int) > 0) = false := by assumption
                       have g0 : ¬ 0 < i := by have := of_decide_eq_false g0; omega
                       rw [if_neg g0] at e
                       refine k_loop_next (j' := j - 1) (by omega) ⟨i + 1, by omega, by rw [e]; exact hf2, Sub.live ⟨rfl, rfl, rfl, rfl, trivial⟩ ⟨?_, trivial⟩⟩
                       rw [e]
                       simp only [List.append_assoc, List.nil_append, List.append_nil]; rfl))
               | (rw [hl0]; omega)
               | exact ixn_ok g)
          | (have g : (d.f 3).l.length ≤ i := ge_b (by assumption)
             have e : i = (d.f 3).l.length := by omega
             subst e
             have hP := pr_end hpi (.inl h5)
             rw [if_neg (show ¬ (d.f 0).n = 6 by omega), if_neg (show ¬ (d.f 0).n = 6 by omega)] at hP
             first
               | (rw [hl0]; omega)
               | (show V.c _ = V.c _; rw [hP])
               | (rw [hP]; exact ⟨by simp only [List.append_assoc]; rfl, trivial⟩))
  · have h6 : (d.f 0).n = 6 := by omega
    have hll : (d.f 4).l.length = (d.f 3).l.length := by
      have g : (((d.f 4).l.length : Int) != ((d.f 3).l.length : Int)) = false := by assumption
      have g : ((d.f 4).l.length : Int) = ((d.f 3).l.length : Int) := by simpa using g
      omega
    refine aw_loop (fun j st => ∃ i, i + j = (d.f 3).l.length ∧ (pq k d i).1 = true ∧ Sub ⟨Tryd.prog, pas, w0, w, EN5, he, hpp⟩ st (HpO d (bl ++ [123] ++ (pq k d i).2) i)) (d.f 3).l.length ⟨0, by omega, rfl, ?_⟩ ?_
    · exact Sub.live ⟨rfl, rfl, rfl, rfl, rfl, trivial⟩ ⟨by rw [show (pq k d 0).2 = [] from rfl, List.append_nil]; rfl, rfl, trivial⟩
    · rintro j st ⟨i, hij, hpi, hs2⟩
      refine aw_sub hs2 ?_
      clear hs2
      have hend := pq_end (i := i) h hi (fun _ => hll) (by omega)
      have hl0 : (bl ++ [123] ++ (pq k d i).2).length = bl.length + 1 + (pq k d i).2.length := by simp; omega
      have ihA := fun (g : decide ((i : Int) < ((d.f 3).l.length : Int)) = true) (g0 : decide ((i : Int) > 0) = true) => ih i (bl ++ [123] ++ (pq k d i).2 ++ [44] ++ (quoteU (keyU d i) ++ [58])) (lt_b g) (by
        have hro := pq_room h hi (fun _ => hll) (lt_b g)
        have g0 : 0 < i := by have := of_decide_eq_true g0; omega
        rw [sep6 h6, if_pos g0] at hro
        rw [List.length_append, List.length_append, hl0]
        simp only [List.length_cons, List.length_nil, List.length_append] at hro ⊢
        omega)
      have ihB := fun (g : decide ((i : Int) < ((d.f 3).l.length : Int)) = true) (_ : decide ((i : Int) > 0) = false) => ih i (bl ++ [123] ++ (pq k d i).2 ++ (quoteU (keyU d i) ++ [58])) (lt_b g) (by
        have hro := pq_room h hi (fun _ => hll) (lt_b g)
        rw [sep6 h6] at hro
        rw [List.length_append, hl0]
        simp only [List.length_cons, List.length_nil, List.length_append] at hro ⊢
        omega)
      have hkq := fun (g : decide ((i : Int) < ((d.f 3).l.length : Int)) = true) => quoteP_ac (gD (d.f 4).l i).s (by
        have h1 := hin.key i (by have := lt_b g; omega)
        omega)
      repeat' (first
    | (apply s_wb rfl
       · conv => lhs; whnf
       · conv => lhs; whnf
       · rfl
       · conv => lhs; whnf; arg 1; whnf
       · rfl
       · rfl)
    | (apply s_ws rfl
       · conv => lhs; whnf
       · conv => lhs; whnf
       · rfl
       · conv => lhs; whnf; arg 1; whnf
       · rfl)
    | (apply s_bcall rfl
       · conv => lhs; whnf
       · conv => lhs; whnf
       · rfl
       · conv => lhs; whnf; arg 1; whnf
       · first | exact ihA (by assumption) (by assumption) | exact ihB (by assumption) (by assumption)
       · exact fun _ => rfl
       · exact fun _ => rfl)
    | refine aw_seq ?_
    | refine aw_region ?_
    | refine awo_nil ?_
    | refine k_seq ?_
    | refine k_block ?_
    | refine k_scope ?_
    | refine aw_block ?_
    | refine aw_skip ?_
    | refine aw_label ?_
    | refine aw_scope ?_
    | (apply s_val rfl
       · conv => lhs; whnf
       · conv => lhs; whnf; arg 2; whnf)
    | (apply s_call rfl
       · conv => lhs; whnf
       · conv => lhs; whnf
       · first | exact hkq (by assumption))
    | (apply s_box rfl rfl rfl rfl
       · conv => lhs; whnf; arg 1; whnf
       · rfl)
    | (apply s_alloc rfl rfl rfl rfl
       · conv => lhs; whnf; arg 1; whnf
       · rfl)
    | (apply s_store rfl rfl rfl
       · conv => lhs; whnf
       · conv => lhs; whnf; arg 1; whnf
       · conv => lhs; whnf; arg 1; whnf
       · exact ⟨by kernel_rfl, by kernel_rfl⟩
       · rfl)
    | (apply aw_cond_t
       · conv => lhs; whnf; arg 1; arg 1; whnf)
    | (apply aw_cond_f
       · conv => lhs; whnf; arg 1; arg 1; whnf)
    | (refine aw_cond (by conv => lhs; whnf) ?_ ?_ <;> intro hb)
    | refine aw_ret ?_
    | refine aw_exit ?_
    | refine k_seq_exit ?_
    | refine k_seq_ret ?_
    | refine k_block_ret ?_
    | refine k_block_hit rfl ?_
    | refine k_block_miss rfl ?_
    | refine k_scope_exit ?_
    | refine k_scope_ret ?_
    | refine k_loop_exit ?_
    | refine k_loop_ret ?_
    | refine k_endB ⟨?_, ?_⟩
    | refine k_endB_ret ⟨?_, ?_⟩
    | exact (rfl : _ = V.tup [])
    | (refine ⟨_, by conv => lhs; whnf; arg 2; whnf, ?_⟩; conv => rhs; whnf)
    | exact trivial
    | intro hg)
      all_goals try (simp only [Nat.zero_add, Nat.reduceAdd] at *)
      all_goals
        first
          | (have g : i < (d.f 3).l.length := lt_b (by assumption)
             have hi0 : (if 0 < i then [(44 : UInt8)] else []) = [44] ∨ (if 0 < i then [(44 : UInt8)] else []) = [] := by split <;> simp
             first
               | (have hf : (!(prP k (gD (d.f 3).l i)).1) = true := by assumption
                  have hP := pr_go g hpi hf (.inr ⟨h6, hll⟩)
                  rw [sep6 h6, if_pos h6] at hP
                  first
                    | (have g0 : decide ((i : Int) > 0) = true := by assumption
                       have g0 : 0 < i := by have := of_decide_eq_true g0; omega
                       rw [if_pos g0] at hP
                       first
                         | (show V.c _ = V.c _; rw [hP])
                         | (rw [hP]; exact ⟨by simp only [List.append_assoc]; rfl, trivial⟩))
                    | (have g0 : decide ((i : Int) > 0) = false := by assumption
                       have g0 : ¬ 0 < i := by have := of_decide_eq_false g0; omega
                       rw [if_neg g0] at hP
                       first
                         | (show V.c _ = V.c _; rw [hP])
                         | (rw [hP]; exact ⟨by simp only [List.append_assoc, List.nil_append, List.append_nil]; rfl, trivial⟩)))
               | (have hf : (!(prP k (gD (d.f 3).l i)).1) = false := by assumption
                  have hf2 : (prP k (gD (d.f 3).l i)).1 = true := by simpa using hf
                  have e := pq_go hpi
                  rw [sep6 h6] at e
                  first
                    | exact i64_in2 (by omega)
                    | (have g0 : decide ((i : Int) > 0) = true := by assumption
                       have g0 : 0 < i := by have := of_decide_eq_true g0; omega
                       rw [if_pos g0] at e
                       refine k_loop_next (j' := j - 1) (by omega) ⟨i + 1, by omega, by rw [e]; exact hf2, Sub.live ⟨rfl, rfl, rfl, rfl, rfl, trivial⟩ ⟨?_, rfl, trivial⟩⟩
                       rw [e]
                       simp only [List.append_assoc]; rfl)
                    | (have g0 : decide ((i : Int) > 0) = false := by assumption
                       have g0 : ¬ 0 < i := by have := of_decide_eq_false g0; omega
                       rw [if_neg g0] at e
                       refine k_loop_next (j' := j - 1) (by omega) ⟨i + 1, by omega, by rw [e]; exact hf2, Sub.live ⟨rfl, rfl, rfl, rfl, rfl, trivial⟩ ⟨?_, rfl, trivial⟩⟩
                       rw [e]
                       simp only [List.append_assoc, List.nil_append, List.append_nil]; rfl))
               | (rw [hl0]; omega)
               | exact ⟨by omega, by omega⟩
               | (have hqk := quoteU_length (gD (d.f 4).l i).s.data.toList
                  have hqs : (gD (d.f 4).l i).s.data.toList.length = (gD (d.f 4).l i).s.size := rfl
                  have hqb := hin.key i (by omega)
                  have h58 : ({ data := #[58] } : ByteArray).size = 1 := rfl
                  simp only [ByteArray.size_append, bs_size, List.length_append, List.length_cons, List.length_nil, h58, maxLen]
                  omega))
          | (have g : (d.f 3).l.length ≤ i := ge_b (by assumption)
             have e : i = (d.f 3).l.length := by omega
             subst e
             have hP := pr_end hpi (.inr ⟨h6, hll⟩)
             rw [if_pos h6, if_pos h6] at hP
             first
               | (rw [hl0]; omega)
               | (show V.c _ = V.c _; rw [hP])
               | (rw [hP]; exact ⟨by simp only [List.append_assoc]; rfl, trivial⟩))
set_option maxRecDepth 100000 in
theorem printP_acb : ∀ (k : Nat) (d : D) (bl : List UInt8), Dp k d → intsJ k d → wtJ k d ≤ 1000000 → bl.length + 32 * wtJ k d ≤ 100000000 →
    ACB EN5 Tryd.prog 34 [.bx (pn 0) 0, .agg (cellsV Tryd.prog 12 39 d)] [.bld 78 5 bl] (.c (.bool (prP k d).1)) [.bld 78 5 (bl ++ (prP k d).2)]
  | 0, _, _, h, _, _, _ => h.elim
  | k + 1, d, bl, h, hi, hw, hb => printP_core k d bl h hi hw hb fun i bl hil hbl => printP_acb k (gD (d.f 3).l i) bl (h i hil) (hi.2 i hil) ((wt_in h hw).at_ i hil) hbl
/-- the program's Print -/
def printV (k : Nat) (d : D) : V := if okJ k d = true then .tup [.c (.string (bs (wrJ k d))), .c (.int .i64 0)] else .tup [.c (.string (bs [])), .c (.int .i64 9)]
set_option maxRecDepth 100000 in
theorem print_ac (k : Nat) (d : D) (h : Dp k d) (hi : intsJ k d) (hw : wtJ k d ≤ 1000000) : AC EN5 Tryd.prog 18 [.agg (cellsV Tryd.prog 12 39 d)] (printV k d) := by
  have hp := printP_acb k d [] h hi hw (by simp; omega)
  rw [List.nil_append] at hp
  have hl := prP_len h hi
  have hok := prP_ok k d
  by_cases ho : okJ k d = true
  · have e : printV k d = .tup [.c (.string (bs (wrJ k d))), .c (.int .i64 0)] := by unfold printV; rw [if_pos ho]
    rw [hok.1, ho, hok.2 ho] at hp
    rw [hok.2 ho] at hl
    rw [e]
    refine ac_enter 9 Tryd.func18 rfl rfl rfl rfl ?_
    intro s w he
    repeat' (first
    | (apply s_bcall0 rfl
       · conv => lhs; whnf
       · conv => lhs; whnf
       · rfl
       · rfl
       · first | exact hp
       · rfl
       · exact fun _ => rfl
       · exact fun _ => rfl)
    | (apply s_bs rfl
       · conv => lhs; whnf
       · conv => lhs; whnf
       · rfl
       · conv => lhs; whnf; arg 1; whnf
       · exact ⟨rfl, rfl⟩
       · rfl)
    | refine aw_seq ?_
    | refine aw_region ?_
    | refine awo_nil ?_
    | refine k_seq ?_
    | refine k_block ?_
    | refine k_scope ?_
    | refine aw_block ?_
    | refine aw_skip ?_
    | refine aw_label ?_
    | refine aw_scope ?_
    | (apply s_val rfl
       · conv => lhs; whnf
       · conv => lhs; whnf; arg 2; whnf)
    | (apply s_call rfl
       · conv => lhs; whnf
       · conv => lhs; whnf
       · first | fail)
    | (apply s_box rfl rfl rfl rfl
       · conv => lhs; whnf; arg 1; whnf
       · rfl)
    | (apply s_alloc rfl rfl rfl rfl
       · conv => lhs; whnf; arg 1; whnf
       · rfl)
    | (apply aw_cond_t
       · conv => lhs; whnf; arg 1; arg 1; whnf)
    | (apply aw_cond_f
       · conv => lhs; whnf; arg 1; arg 1; whnf)
    | (refine aw_cond (by conv => lhs; whnf) ?_ ?_ <;> intro hb)
    | refine aw_ret ?_
    | refine aw_exit ?_
    | refine k_seq_exit ?_
    | refine k_seq_ret ?_
    | refine k_block_ret ?_
    | refine k_block_hit rfl ?_
    | refine k_block_miss rfl ?_
    | refine k_scope_exit ?_
    | refine k_scope_ret ?_
    | refine k_loop_exit ?_
    | refine k_loop_ret ?_
    | refine k_end ?_
    | refine k_end_ret ?_
    | (refine ⟨_, by conv => lhs; whnf; arg 2; whnf, ?_⟩; conv => rhs; whnf)
    | exact trivial
    | intro hg)
    · exact ⟨_, _, rfl, rfl, rfl⟩
    · unfold maxLen; omega
  · have e : printV k d = .tup [.c (.string (bs [])), .c (.int .i64 9)] := by unfold printV; rw [if_neg ho]
    have ho : okJ k d = false := by simpa using ho
    rw [hok.1, ho] at hp
    rw [e]
    refine ac_enter 9 Tryd.func18 rfl rfl rfl rfl ?_
    intro s w he
    repeat' (first
    | (apply s_bcall0 rfl
       · conv => lhs; whnf
       · conv => lhs; whnf
       · rfl
       · rfl
       · first | exact hp
       · rfl
       · exact fun _ => rfl
       · exact fun _ => rfl)
    | (apply s_bs rfl
       · conv => lhs; whnf
       · conv => lhs; whnf
       · rfl
       · conv => lhs; whnf; arg 1; whnf
       · exact ⟨rfl, rfl⟩
       · rfl)
    | refine aw_seq ?_
    | refine aw_region ?_
    | refine awo_nil ?_
    | refine k_seq ?_
    | refine k_block ?_
    | refine k_scope ?_
    | refine aw_block ?_
    | refine aw_skip ?_
    | refine aw_label ?_
    | refine aw_scope ?_
    | (apply s_val rfl
       · conv => lhs; whnf
       · conv => lhs; whnf; arg 2; whnf)
    | (apply s_call rfl
       · conv => lhs; whnf
       · conv => lhs; whnf
       · first | fail)
    | (apply s_box rfl rfl rfl rfl
       · conv => lhs; whnf; arg 1; whnf
       · rfl)
    | (apply s_alloc rfl rfl rfl rfl
       · conv => lhs; whnf; arg 1; whnf
       · rfl)
    | (apply aw_cond_t
       · conv => lhs; whnf; arg 1; arg 1; whnf)
    | (apply aw_cond_f
       · conv => lhs; whnf; arg 1; arg 1; whnf)
    | (refine aw_cond (by conv => lhs; whnf) ?_ ?_ <;> intro hb)
    | refine aw_ret ?_
    | refine aw_exit ?_
    | refine k_seq_exit ?_
    | refine k_seq_ret ?_
    | refine k_block_ret ?_
    | refine k_block_hit rfl ?_
    | refine k_block_miss rfl ?_
    | refine k_scope_exit ?_
    | refine k_scope_ret ?_
    | refine k_loop_exit ?_
    | refine k_loop_ret ?_
    | refine k_end ?_
    | refine k_end_ret ?_
    | (refine ⟨_, by conv => lhs; whnf; arg 2; whnf, ?_⟩; conv => rhs; whnf)
    | exact trivial
    | intro hg)
    exact ⟨_, _, rfl, rfl, rfl⟩
end Go.Proofs.YtjhjleanihgopaaDoor
