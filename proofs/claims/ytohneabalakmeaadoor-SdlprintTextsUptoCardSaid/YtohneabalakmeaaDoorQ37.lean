/- Parts of a proof, merged by a program (shake.py). -/
import Derived.Test.YtohneabalakmeaaDoorQ36
namespace Go.Proofs.YtohneabalakmeaaDoor
open Go.RowKit
attribute [local irreducible] wpList Calls Code.wp AW AWo OpOk seqK blockK scopeK loopK endK AC absLex Yld Sub
def linesB (ts : List (List UInt8)) : List UInt8 := (ts.map fun t => [32, 32] ++ t ++ [10]).flatten
theorem linesB_step {ts : List (List UInt8)} {i : Nat} (h : i < ts.length) : linesB (ts.take (i + 1)) = linesB (ts.take i) ++ ([32, 32] ++ gU ts i ++ [10]) := by
  unfold linesB
  rw [take_gU h, List.map_append, List.flatten_append]
  simp
theorem linesB_mono (ts : List (List UInt8)) (m : Nat) : (linesB (ts.take m)).length ≤ (linesB ts).length := by
  conv => rhs; rw [← List.take_append_drop m ts]
  unfold linesB
  rw [List.map_append, List.flatten_append, List.length_append]
  omega
theorem linesB_nil : linesB [] = [] := rfl
noncomputable def H119 (x : D) (ts : List (List UInt8)) (k i : Nat) : Vst 76 :=
  stS 76 [(1, .bx 1 0), (3, .c (.string (bs (linesB (ts.take i))))), (k, .c (.int .i64 i))] [(1, .box 58 (cellsV Tryd.prog 12 58 x))]
theorem linesB_size {ts : List (List UInt8)} {i : Nat} (h : i < ts.length) (hl : (linesB ts).length ≤ 100000000) : (linesB (ts.take i)).length + (gU ts i).length + 3 ≤ 100000000 := by
  have := linesB_mono ts (i + 1)
  rw [linesB_step h] at this
  simp only [List.length_append, List.length_cons, List.length_nil] at this
  omega
set_option maxRecDepth 100000 in
theorem linesR_ac (x : D) (ts ds : List (List UInt8)) (hk : 1 ≤ (x.f 0).n ∧ (x.f 0).n ≤ 5)
    (hF : (x.f 0).n = 1 ∨ (x.f 0).n = 2 → ts.length = (x.f 4).l.length ∧ ∀ i, i < (x.f 4).l.length → AC EN Tryd.prog 151 [.agg (cellsV Tryd.prog 12 64 (gD (x.f 4).l i))] (.c (.string (bs (gU ts i)))))
    (hM : (x.f 0).n = 4 → ts.length = (x.f 5).l.length ∧ ∀ i, i < (x.f 5).l.length → AC EN Tryd.prog 118 [.sl 101 ((gD (x.f 5).l i).f 1).l] (.c (.string (bs (gU ds i)))) ∧ gU ts i = tx ((gD (x.f 5).l i).f 0).s ++ gU ds i)
    (hI : (x.f 0).n = 5 → ts.length = (x.f 6).l.length ∧ ∀ i, i < (x.f 6).l.length → AC EN Tryd.prog 152 [.agg (cellsV Tryd.prog 12 132 (gD (x.f 6).l i))] (.c (.string (bs (gU ts i)))))
    (hU : (x.f 0).n = 3 → ts = []) (hl : (linesB ts).length ≤ 100000000) (hn : ts.length ≤ 100000000) :
    AC EN Tryd.prog 119 [.agg (cellsV Tryd.prog 12 58 x)] (.c (.string (bs (linesB ts)))) := by
  have hm := linesB_mono ts
  refine ac_enter 76 Tryd.func119 rfl rfl rfl rfl ?_
  intro s w he
  repeat' (first
    | refine aw_seq ?_
    | refine aw_region ?_
    | refine awo_nil ?_
    | refine k_seq ?_
    | refine k_block ?_
    | refine k_scope ?_
    | refine aw_block ?_
    | refine aw_skip ?_
    | refine aw_label ?_
    | refine aw_scope ?_
    | (apply s_val rfl
       · conv => lhs; whnf
       · conv => lhs; whnf; arg 2; whnf)
    | (apply s_call rfl
       · conv => lhs; whnf
       · conv => lhs; whnf
       · first | fail)
    | (apply s_box rfl rfl rfl rfl
       · conv => lhs; whnf; arg 1; whnf
       · rfl)
    | (apply aw_draw (by kernel_rfl) (by kernel_rfl))
    | apply y_nil
    | (apply y_val rfl
       · conv => lhs; whnf
       · conv => lhs; whnf; arg 2; whnf)
    | (apply y_call rfl
       · conv => lhs; whnf
       · conv => lhs; whnf
       · first | fail)
    | exact apartB_none
    | exact apartB_nil
    | exact all_nil
    | (show List.all _ _ = true; rfl)
    | (show apartB _ _ = true; rfl)
    | exact ([] : List Nat)
    | exact (1000000 : Nat)
    | (apply aw_cond_t
       · conv => lhs; whnf; arg 1; arg 1; whnf)
    | (apply aw_cond_f
       · conv => lhs; whnf; arg 1; arg 1; whnf)
    | (refine aw_cond (by conv => lhs; whnf) ?_ ?_ <;> intro hb)
    | refine aw_ret ?_
    | refine aw_exit ?_
    | refine k_seq_exit ?_
    | refine k_seq_ret ?_
    | refine k_block_ret ?_
    | refine k_block_hit rfl ?_
    | refine k_block_miss rfl ?_
    | refine k_scope_exit ?_
    | refine k_scope_ret ?_
    | refine k_loop_exit ?_
    | refine k_loop_ret ?_
    | refine k_end ?_
    | refine k_end_ret ?_
    | (refine ⟨_, by conv => lhs; whnf; arg 2; whnf, ?_⟩; conv => rhs; whnf)
    | exact trivial
    | intro hg)
  rotate_left 1
  · exfalso; simp_all
  · exfalso; simp_all
  · exfalso; simp_all
  rotate_left 4
  · obtain ⟨hlen, hf⟩ := hF (.inl (by simpa using hb))
    refine aw_loop (fun j st => ∃ i, i + j = ts.length ∧ Sub (cx EN Tryd.prog s w he) st (H119 x ts 4 i)) ts.length ⟨0, by omega, ?_⟩ ?_
    · exact Sub.live ⟨rfl, rfl, rfl, trivial⟩ ⟨rfl, trivial⟩
    · rintro j st ⟨i, hij, hs2⟩
      refine aw_sub hs2 ?_
      have hi2 := fun (h : decide ((i : Int) < (x.f 4).l.length) = true) => hf i (by simpa using h)
      have hst := fun (h : decide ((i : Int) < (x.f 4).l.length) = true) => linesB_size (ts := ts) (i := i) (by simp at h; omega) hl
      repeat' (first
    | refine aw_seq ?_
    | refine aw_region ?_
    | refine awo_nil ?_
    | refine k_seq ?_
    | refine k_block ?_
    | refine k_scope ?_
    | refine aw_block ?_
    | refine aw_skip ?_
    | refine aw_label ?_
    | refine aw_scope ?_
    | (apply s_val rfl
       · conv => lhs; whnf
       · conv => lhs; whnf; arg 2; whnf)
    | (apply s_call rfl
       · conv => lhs; whnf
       · conv => lhs; whnf
       · first | exact hi2 (by assumption))
    | (apply s_box rfl rfl rfl rfl
       · conv => lhs; whnf; arg 1; whnf
       · rfl)
    | (apply aw_draw (by kernel_rfl) (by kernel_rfl))
    | apply y_nil
    | (apply y_val rfl
       · conv => lhs; whnf
       · conv => lhs; whnf; arg 2; whnf)
    | (apply y_call rfl
       · conv => lhs; whnf
       · conv => lhs; whnf
       · first | exact hi2 (by assumption))
    | exact apartB_none
    | exact apartB_nil
    | exact all_nil
    | (show List.all _ _ = true; rfl)
    | (show apartB _ _ = true; rfl)
    | exact ([] : List Nat)
    | exact (1000000 : Nat)
    | (apply aw_cond_t
       · conv => lhs; whnf; arg 1; arg 1; whnf)
    | (apply aw_cond_f
       · conv => lhs; whnf; arg 1; arg 1; whnf)
    | (refine aw_cond (by conv => lhs; whnf) ?_ ?_ <;> intro hb)
    | refine aw_ret ?_
    | refine aw_exit ?_
    | refine k_seq_exit ?_
    | refine k_seq_ret ?_
    | refine k_block_ret ?_
    | refine k_block_hit rfl ?_
    | refine k_block_miss rfl ?_
    | refine k_scope_exit ?_
    | refine k_scope_ret ?_
    | refine k_loop_exit ?_
    | refine k_loop_ret ?_
    | refine k_end ?_
    | refine k_end_ret ?_
    | (refine ⟨_, by conv => lhs; whnf; arg 2; whnf, ?_⟩; conv => rhs; whnf)
    | exact trivial
    | intro hg)
      · have hlt : i < ts.length := by have hb : decide ((i : Int) < (x.f 4).l.length) = true := hb; simp at hb; omega
        refine k_loop_next (j' := j - 1) (by omega) ⟨i + 1, by omega, Sub.live ⟨rfl, ?_, rfl, trivial⟩ ⟨rfl, trivial⟩⟩
        show V.c (.string (bs (linesB (ts.take i)) ++ ⟨#[32, 32]⟩ ++ bs (gU ts i) ++ ⟨#[10]⟩)) = _
        rw [linesB_step hlt]
        simp only [lit_bs, ← bs_append, ByteArray.append_assoc]
      · exact i64_ok (by omega)
      all_goals try (have hq := hst hb; (simp only [ByteArray.size_append, bs_size, lit_size, List.size_toArray, List.length_append, List.length_cons, List.length_nil, maxLen, Nat.reduceAdd, Int.toNat_natCast]; omega))
      all_goals try (show 0 ≤ (i : Int) ∧ (i : Int) < ((x.f 4).l.length : Int); have hb : decide ((i : Int) < (x.f 4).l.length) = true := hb; simp at hb; omega)
      all_goals (have e : i = ts.length := by { have hb : decide ((i : Int) < (x.f 4).l.length) = false := hb; simp at hb; omega }
                 rw [e, List.take_length])
  · obtain ⟨hlen, hf⟩ := hF (.inr (by simpa using hb))
    refine aw_loop (fun j st => ∃ i, i + j = ts.length ∧ Sub (cx EN Tryd.prog s w he) st (H119 x ts 4 i)) ts.length ⟨0, by omega, ?_⟩ ?_
    · exact Sub.live ⟨rfl, rfl, rfl, trivial⟩ ⟨rfl, trivial⟩
    · rintro j st ⟨i, hij, hs2⟩
      refine aw_sub hs2 ?_
      have hi2 := fun (h : decide ((i : Int) < (x.f 4).l.length) = true) => hf i (by simpa using h)
      have hst := fun (h : decide ((i : Int) < (x.f 4).l.length) = true) => linesB_size (ts := ts) (i := i) (by simp at h; omega) hl
      repeat' (first
    | refine aw_seq ?_
    | refine aw_region ?_
    | refine awo_nil ?_
    | refine k_seq ?_
    | refine k_block ?_
    | refine k_scope ?_
    | refine aw_block ?_
    | refine aw_skip ?_
    | refine aw_label ?_
    | refine aw_scope ?_
    | (apply s_val rfl
       · conv => lhs; whnf
       · conv => lhs; whnf; arg 2; whnf)
    | (apply s_call rfl
       · conv => lhs; whnf
       · conv => lhs; whnf
       · first | exact hi2 (by assumption))
    | (apply s_box rfl rfl rfl rfl
       · conv => lhs; whnf; arg 1; whnf
       · rfl)
    | (apply aw_draw (by kernel_rfl) (by kernel_rfl))
    | apply y_nil
    | (apply y_val rfl
       · conv => lhs; whnf
       · conv => lhs; whnf; arg 2; whnf)
    | (apply y_call rfl
       · conv => lhs; whnf
       · conv => lhs; whnf
       · first | exact hi2 (by assumption))
    | exact apartB_none
    | exact apartB_nil
    | exact all_nil
    | (show List.all _ _ = true; rfl)
    | (show apartB _ _ = true; rfl)
    | exact ([] : List Nat)
    | exact (1000000 : Nat)
    | (apply aw_cond_t
       · conv => lhs; whnf; arg 1; arg 1; whnf)
    | (apply aw_cond_f
       · conv => lhs; whnf; arg 1; arg 1; whnf)
    | (refine aw_cond (by conv => lhs; whnf) ?_ ?_ <;> intro hb)
    | refine aw_ret ?_
    | refine aw_exit ?_
    | refine k_seq_exit ?_
    | refine k_seq_ret ?_
    | refine k_block_ret ?_
    | refine k_block_hit rfl ?_
    | refine k_block_miss rfl ?_
    | refine k_scope_exit ?_
    | refine k_scope_ret ?_
    | refine k_loop_exit ?_
    | refine k_loop_ret ?_
    | refine k_end ?_
    | refine k_end_ret ?_
    | (refine ⟨_, by conv => lhs; whnf; arg 2; whnf, ?_⟩; conv => rhs; whnf)
    | exact trivial
    | intro hg)
      · have hlt : i < ts.length := by have hb : decide ((i : Int) < (x.f 4).l.length) = true := hb; simp at hb; omega
        refine k_loop_next (j' := j - 1) (by omega) ⟨i + 1, by omega, Sub.live ⟨rfl, ?_, rfl, trivial⟩ ⟨rfl, trivial⟩⟩
        show V.c (.string (bs (linesB (ts.take i)) ++ ⟨#[32, 32]⟩ ++ bs (gU ts i) ++ ⟨#[10]⟩)) = _
        rw [linesB_step hlt]
        simp only [lit_bs, ← bs_append, ByteArray.append_assoc]
      · exact i64_ok (by omega)
      all_goals try (have hq := hst hb; (simp only [ByteArray.size_append, bs_size, lit_size, List.size_toArray, List.length_append, List.length_cons, List.length_nil, maxLen, Nat.reduceAdd, Int.toNat_natCast]; omega))
      all_goals try (show 0 ≤ (i : Int) ∧ (i : Int) < ((x.f 4).l.length : Int); have hb : decide ((i : Int) < (x.f 4).l.length) = true := hb; simp at hb; omega)
      all_goals (have e : i = ts.length := by { have hb : decide ((i : Int) < (x.f 4).l.length) = false := hb; simp at hb; omega }
                 rw [e, List.take_length])
  · obtain ⟨hlen, hf⟩ := hM (by simpa using hb)
    refine aw_loop (fun j st => ∃ i, i + j = ts.length ∧ Sub (cx EN Tryd.prog s w he) st (H119 x ts 5 i)) ts.length ⟨0, by omega, ?_⟩ ?_
    · exact Sub.live ⟨rfl, rfl, rfl, trivial⟩ ⟨rfl, trivial⟩
    · rintro j st ⟨i, hij, hs2⟩
      refine aw_sub hs2 ?_
      have hi2 := fun (h : decide ((i : Int) < (x.f 5).l.length) = true) => hf i (by simpa using h)
      have hst := fun (h : decide ((i : Int) < (x.f 5).l.length) = true) => linesB_size (ts := ts) (i := i) (by simp at h; omega) hl
      repeat' (first
    | refine aw_seq ?_
    | refine aw_region ?_
    | refine awo_nil ?_
    | refine k_seq ?_
    | refine k_block ?_
    | refine k_scope ?_
    | refine aw_block ?_
    | refine aw_skip ?_
    | refine aw_label ?_
    | refine aw_scope ?_
    | (apply s_val rfl
       · conv => lhs; whnf
       · conv => lhs; whnf; arg 2; whnf)
    | (apply s_call rfl
       · conv => lhs; whnf
       · conv => lhs; whnf
       · first | exact (hi2 (by assumption)).1)
    | (apply s_box rfl rfl rfl rfl
       · conv => lhs; whnf; arg 1; whnf
       · rfl)
    | (apply aw_draw (by kernel_rfl) (by kernel_rfl))
    | apply y_nil
    | (apply y_val rfl
       · conv => lhs; whnf
       · conv => lhs; whnf; arg 2; whnf)
    | (apply y_call rfl
       · conv => lhs; whnf
       · conv => lhs; whnf
       · first | exact (hi2 (by assumption)).1)
    | exact apartB_none
    | exact apartB_nil
    | exact all_nil
    | (show List.all _ _ = true; rfl)
    | (show apartB _ _ = true; rfl)
    | exact ([] : List Nat)
    | exact (1000000 : Nat)
    | (apply aw_cond_t
       · conv => lhs; whnf; arg 1; arg 1; whnf)
    | (apply aw_cond_f
       · conv => lhs; whnf; arg 1; arg 1; whnf)
    | (refine aw_cond (by conv => lhs; whnf) ?_ ?_ <;> intro hb)
    | refine aw_ret ?_
    | refine aw_exit ?_
    | refine k_seq_exit ?_
    | refine k_seq_ret ?_
    | refine k_block_ret ?_
    | refine k_block_hit rfl ?_
    | refine k_block_miss rfl ?_
    | refine k_scope_exit ?_
    | refine k_scope_ret ?_
    | refine k_loop_exit ?_
    | refine k_loop_ret ?_
    | refine k_end ?_
    | refine k_end_ret ?_
    | (refine ⟨_, by conv => lhs; whnf; arg 2; whnf, ?_⟩; conv => rhs; whnf)
    | exact trivial
    | intro hg)
      · have hlt : i < ts.length := by have hb : decide ((i : Int) < (x.f 5).l.length) = true := hb; simp at hb; omega
        refine k_loop_next (j' := j - 1) (by omega) ⟨i + 1, by omega, Sub.live ⟨rfl, ?_, rfl, trivial⟩ ⟨rfl, trivial⟩⟩
        show V.c (.string (bs (linesB (ts.take i)) ++ ⟨#[32, 32]⟩ ++ ((gD (x.f 5).l i).f 0).s ++ bs (gU ds i) ++ ⟨#[10]⟩)) = _
        rw [linesB_step hlt, (hi2 hb).2]
        simp only [lit_bs, ← bs_append, bs_tx, ByteArray.append_assoc]
      · exact i64_ok (by omega)
      all_goals try (have hq := hst hb; have hq2 := congrArg List.length (hi2 hb).2; simp only [List.length_append, tx_size] at hq2; (simp only [ByteArray.size_append, bs_size, lit_size, List.size_toArray, List.length_append, List.length_cons, List.length_nil, maxLen, Nat.reduceAdd, Int.toNat_natCast]; omega))
      all_goals try (show 0 ≤ (i : Int) ∧ (i : Int) < ((x.f 5).l.length : Int); have hb : decide ((i : Int) < (x.f 5).l.length) = true := hb; simp at hb; omega)
      all_goals (have e : i = ts.length := by { have hb : decide ((i : Int) < (x.f 5).l.length) = false := hb; simp at hb; omega }
                 rw [e, List.take_length])
  · obtain ⟨hlen, hf⟩ := hI (by simpa using hb)
    refine aw_loop (fun j st => ∃ i, i + j = ts.length ∧ Sub (cx EN Tryd.prog s w he) st (H119 x ts 6 i)) ts.length ⟨0, by omega, ?_⟩ ?_
    · exact Sub.live ⟨rfl, rfl, rfl, trivial⟩ ⟨rfl, trivial⟩
    · rintro j st ⟨i, hij, hs2⟩
      refine aw_sub hs2 ?_
      have hi2 := fun (h : decide ((i : Int) < (x.f 6).l.length) = true) => hf i (by simpa using h)
      have hst := fun (h : decide ((i : Int) < (x.f 6).l.length) = true) => linesB_size (ts := ts) (i := i) (by simp at h; omega) hl
      repeat' (first
    | refine aw_seq ?_
    | refine aw_region ?_
    | refine awo_nil ?_
    | refine k_seq ?_
    | refine k_block ?_
    | refine k_scope ?_
    | refine aw_block ?_
    | refine aw_skip ?_
    | refine aw_label ?_
    | refine aw_scope ?_
    | (apply s_val rfl
       · conv => lhs; whnf
       · conv => lhs; whnf; arg 2; whnf)
    | (apply s_call rfl
       · conv => lhs; whnf
       · conv => lhs; whnf
       · first | exact hi2 (by assumption))
    | (apply s_box rfl rfl rfl rfl
       · conv => lhs; whnf; arg 1; whnf
       · rfl)
    | (apply aw_draw (by kernel_rfl) (by kernel_rfl))
    | apply y_nil
    | (apply y_val rfl
       · conv => lhs; whnf
       · conv => lhs; whnf; arg 2; whnf)
    | (apply y_call rfl
       · conv => lhs; whnf
       · conv => lhs; whnf
       · first | exact hi2 (by assumption))
    | exact apartB_none
    | exact apartB_nil
    | exact all_nil
    | (show List.all _ _ = true; rfl)
    | (show apartB _ _ = true; rfl)
    | exact ([] : List Nat)
    | exact (1000000 : Nat)
    | (apply aw_cond_t
       · conv => lhs; whnf; arg 1; arg 1; whnf)
    | (apply aw_cond_f
       · conv => lhs; whnf; arg 1; arg 1; whnf)
    | (refine aw_cond (by conv => lhs; whnf) ?_ ?_ <;> intro hb)
    | refine aw_ret ?_
    | refine aw_exit ?_
    | refine k_seq_exit ?_
    | refine k_seq_ret ?_
    | refine k_block_ret ?_
    | refine k_block_hit rfl ?_
    | refine k_block_miss rfl ?_
    | refine k_scope_exit ?_
    | refine k_scope_ret ?_
    | refine k_loop_exit ?_
    | refine k_loop_ret ?_
    | refine k_end ?_
    | refine k_end_ret ?_
    | (refine ⟨_, by conv => lhs; whnf; arg 2; whnf, ?_⟩; conv => rhs; whnf)
    | exact trivial
    | intro hg)
      · have hlt : i < ts.length := by have hb : decide ((i : Int) < (x.f 6).l.length) = true := hb; simp at hb; omega
        refine k_loop_next (j' := j - 1) (by omega) ⟨i + 1, by omega, Sub.live ⟨rfl, ?_, rfl, trivial⟩ ⟨rfl, trivial⟩⟩
        show V.c (.string (bs (linesB (ts.take i)) ++ ⟨#[32, 32]⟩ ++ bs (gU ts i) ++ ⟨#[10]⟩)) = _
        rw [linesB_step hlt]
        simp only [lit_bs, ← bs_append, ByteArray.append_assoc]
      · exact i64_ok (by omega)
      all_goals try (have hq := hst hb; (simp only [ByteArray.size_append, bs_size, lit_size, List.size_toArray, List.length_append, List.length_cons, List.length_nil, maxLen, Nat.reduceAdd, Int.toNat_natCast]; omega))
      all_goals try (show 0 ≤ (i : Int) ∧ (i : Int) < ((x.f 6).l.length : Int); have hb : decide ((i : Int) < (x.f 6).l.length) = true := hb; simp at hb; omega)
      all_goals (have e : i = ts.length := by { have hb : decide ((i : Int) < (x.f 6).l.length) = false := hb; simp at hb; omega }
                 rw [e, List.take_length])
  · rename_i h1 h2 h4
    simp at h1 h2 h4 hb
    rw [hU (by omega)]
    rfl
end Go.Proofs.YtohneabalakmeaaDoor
