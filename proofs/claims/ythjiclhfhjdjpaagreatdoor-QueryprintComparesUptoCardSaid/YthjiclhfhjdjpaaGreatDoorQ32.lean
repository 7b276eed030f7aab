/- Parts of a proof, merged by a program (shake.py). -/
import Derived.Test.YthjiclhfhjdjpaaGreatDoorQ31
set_option linter.unusedVariables false
set_option linter.unusedSimpArgs false
namespace Go.Proofs.YthjiclhfhjdjpaaGreatDoor
open Go.RowKit
attribute [local irreducible] wpList Calls Code.wp AW AWo OpOk seqK blockK scopeK loopK endK AC absLex Yld Sub
/-- the keyword of a kind of operations -/
def wordT (k : Int) : List UInt8 := if k = 2 then [109, 117, 116, 97, 116, 105, 111, 110] else if k = 3 then [115, 117, 98, 115, 99, 114, 105, 112, 116, 105, 111, 110] else [113, 117, 101, 114, 121]
def varT (K : Nat) (v : D) : List UInt8 := [36] ++ tx (v.f 0).s ++ [58, 32] ++ refB (tx ((v.f 1).f 0).s) ((v.f 1).f 1).l ++ (if (v.f 2).b = true then [32, 61, 32] ++ valT K (v.f 3) else [])
def varsT (K : Nat) (l : List D) : List UInt8 := Lib.join (l.map (varT K)) commaT
def opT (K : Nat) (o : D) : List UInt8 :=
  if (o.f 0).n = 1 ∧ tx (o.f 1).s = [] ∧ (o.f 2).l.length = 0 then [123]
  else wordT (o.f 0).n ++ (if tx (o.f 1).s = [] then [] else [32] ++ tx (o.f 1).s) ++ (if (o.f 2).l.length = 0 then [] else [40] ++ varsT K (o.f 2).l ++ [41]) ++ [32, 123]
structure VarsOk (K : Nat) (l : List D) : Prop where
  wide : ∀ i, wideD (gD l i)
  bulk : bulkL l ≤ 1048576
  dp : ∀ i, i < l.length → Dp K ((gD l i).f 3)
  good : ∀ i, i < l.length → goodV K ((gD l i).f 3)
set_option maxHeartbeats 8000000 in
set_option maxRecDepth 100000 in
theorem varT_len (K : Nat) (v : D) (h : wideD v) : (varT K v).length + 2 ≤ 40 * bulkD v := by
  have h1 := valT_len K (v.f 3) (h.f 3)
  have h2 := bulkD_wD (v.f 3)
  have h3 := bulkD_wD v
  have h4 := wD_str (v.f 0)
  have h5 := wD_fields v 4
  have h6 := tx_len (v.f 0).s
  have h7 := refB_length (tx ((v.f 1).f 0).s) ((v.f 1).f 1).l
  have h8 := wD_fields (v.f 1) 2
  have h9 := wD_str ((v.f 1).f 0)
  have h10 := tx_len ((v.f 1).f 0).s
  have h11 := Nat.le_trans (len_bulk ((v.f 1).f 1).l) (wD_list ((v.f 1).f 1))
  simp only [sumN] at h5 h8
  unfold varT
  split <;> simp only [List.length_append, List.length_cons, List.length_nil] <;> omega
set_option maxHeartbeats 8000000 in
set_option maxRecDepth 100000 in
theorem varsT_len (K : Nat) (l : List D) (h : ∀ i, wideD (gD l i)) : (varsT K l).length ≤ 40 * bulkL l := join_map_le l _ _ _ fun i _ => varT_len K _ (h i)
set_option maxHeartbeats 8000000 in
set_option maxRecDepth 100000 in
theorem refP_d (x : D) (hn : (x.f 0).s.size ≤ 2000000) (hl : (x.f 1).l.length ≤ 2000000) : AC EN Tryz.prog 121 [.agg (cellsV Tryz.prog 12 71 x)] (.c (.string (bs (refB (tx (x.f 0).s) (x.f 1).l)))) := by
  have := refP_ac (tx (x.f 0).s) (x.f 1).l (by rw [tx_len]; exact hn) hl
  rw [bs_tx] at this
  exact this
structure VarSz (K : Nat) (v : D) : Prop where
  name : (v.f 0).s.size ≤ 1048576
  rname : ((v.f 1).f 0).s.size ≤ 1048576
  wraps : ((v.f 1).f 1).l.length ≤ 1048576
  rtext : (refB (tx ((v.f 1).f 0).s) ((v.f 1).f 1).l).length ≤ 4000000
  dflt : bulkD (v.f 3) ≤ 1048576
  dtext : (valT K (v.f 3)).length ≤ 26000000
set_option maxHeartbeats 8000000 in
set_option maxRecDepth 100000 in
theorem VarsOk.sz {K : Nat} {l : List D} (h : VarsOk K l) {i : Nat} (hi : i < l.length) : VarSz K (gD l i) := by
  have h0 := bulkL_get hi
  have h0' := h.bulk
  have h1 := valT_len K ((gD l i).f 3) ((h.wide i).f 3)
  have h2 := bulkD_wD ((gD l i).f 3)
  have h3 := bulkD_wD (gD l i)
  have h4 := wD_str ((gD l i).f 0)
  have h5 := wD_fields (gD l i) 4
  have h7 := refB_length (tx (((gD l i).f 1).f 0).s) (((gD l i).f 1).f 1).l
  have h8 := wD_fields ((gD l i).f 1) 2
  have h9 := wD_str (((gD l i).f 1).f 0)
  have h10 := tx_len (((gD l i).f 1).f 0).s
  have h11 := Nat.le_trans (len_bulk (((gD l i).f 1).f 1).l) (wD_list (((gD l i).f 1).f 1))
  simp only [sumN] at h5 h8
  refine ⟨?_, ?_, ?_, ?_, ?_, ?_⟩ <;> omega
set_option maxHeartbeats 8000000 in
set_option maxRecDepth 100000 in
theorem word_ac (k : Int) : AC EN Tryz.prog 120 [.c (.int .i64 k)] (.c (.string (bs (wordT k)))) := by
  refine ac_enter 8 Tryz.func120 rfl rfl rfl rfl ?_
  intro s w he
  repeat' (first
 | refine aw_region ?_
 | refine awo_nil ?_
 | refine k_seq ?_
 | refine k_block ?_
 | (apply aw_1
    conv => whnf
    refine ⟨?_, trivial⟩)
 | (apply s_1
    conv => whnf; arg 1; arg 4; arg 3; whnf
    refine ⟨?_, ?_⟩)
 | (refine aw_cond (by conv => lhs; whnf) ?_ ?_ <;> intro hb)
 | refine k_seq_ret ?_
 | refine k_block_ret ?_
 | refine k_end_ret ?_
 | (refine ⟨_, by conv => lhs; whnf; arg 2; whnf, ?_⟩; conv => rhs; whnf)
 | exact trivial)
  · rw [wordT, if_pos (by simpa using hb)]; rfl
  · rename_i h2
    rw [wordT, if_neg (by simpa using h2), if_pos (by simpa using hb)]; rfl
  · rename_i h2
    rw [wordT, if_neg (by simpa using h2), if_neg (by simpa using hb)]; rfl
set_option maxHeartbeats 8000000 in
set_option maxRecDepth 100000 in
theorem wordT_len (k : Int) : (wordT k).length ≤ 12 := by
  unfold wordT
  split
  · simp
  · split <;> simp
def opName (o : D) : List UInt8 := wordT (o.f 0).n ++ (if tx (o.f 1).s = [] then [] else [32] ++ tx (o.f 1).s)
noncomputable def HhA (o : D) : Vst 72 := stS 72 [(1, .bx 1 0)] [(1, .box 57 (cellsV Tryz.prog 12 57 o))]
noncomputable def HhB (o : D) : Vst 72 := stS 72 [(1, .bx 1 0), (3, .c (.string (bs (opName o))))] [(1, .box 57 (cellsV Tryz.prog 12 57 o))]
set_option maxHeartbeats 8000000 in
set_option maxRecDepth 100000 in
theorem leq0 {n : Nat} (h : (((n : Int)) == 0) = true) : n = 0 := by
  have : (n : Int) = 0 := by simpa using h
  omega
noncomputable def HhP (K : Nat) (o : D) (i : Nat) : Vst 72 :=
  stS 72 [(3, .c (.string (bs (opName o)))), (4, .own 4 9 (strsJ (fun i => varT K (gD (o.f 2).l i)) i)), (34, .sl 88 (o.f 2).l), (35, .c (.int .i64 (o.f 2).l.length)), (36, .c (.int .i64 i))] [(4, .tok 9 (strsJ (fun i => varT K (gD (o.f 2).l i)) i).length)]
set_option maxHeartbeats 8000000 in
set_option maxRecDepth 100000 in
theorem opHead_ac (K : Nat) (o : D) (h : VarsOk K (o.f 2).l) (hn : (o.f 1).s.size ≤ 1048576) : AC EN Tryz.prog 58 [.agg (cellsV Tryz.prog 12 57 o)] (.c (.string (bs (opT K o)))) := by
  have hw := word_ac (o.f 0).n
  have hwl := wordT_len (o.f 0).n
  have hll := Nat.le_trans (len_bulk (o.f 2).l) h.bulk
  have hvl : (varsT K (o.f 2).l).length ≤ 50000000 := by have := varsT_len K _ h.wide; have := h.bulk; omega
  have hj := join_ac (strsJ (fun i => varT K (gD (o.f 2).l i)) (o.f 2).l.length) [44, 32] (by rw [strsR_len]; omega) (by rw [map_strsR]; exact Nat.le_trans hvl (by omega))
  rw [map_strsR] at hj
  have hnl : (opName o).length ≤ 1048600 := by
    have := tx_len (o.f 1).s
    unfold opName
    split <;> simp only [List.length_append, List.length_cons, List.length_nil] <;> omega
  by_cases hc : (o.f 0).n = 1 ∧ tx (o.f 1).s = [] ∧ (o.f 2).l.length = 0
  · have k1 : (((o.f 0).n == 1) == true) = false → False := fun h => by rw [hc.1] at h; cases h
    have k2 : (((o.f 1).s.toList == (⟨#[]⟩ : ByteArray).toList) == true) = false → False := fun h => e_ne (bF1 h) hc.2.1
    have k3 : ((((o.f 2).l.length : Int)) == 0) = false → False := fun h => by rw [hc.2.2] at h; cases h
    refine ac_enter 72 Tryz.func58 rfl rfl rfl rfl ?_
    intro s w he
    repeat' (first
 | exact (k1 (by assumption)).elim
 | exact (k2 (by assumption)).elim
 | exact (k3 (by assumption)).elim
 | refine aw_region ?_
 | refine awo_nil ?_
 | refine k_seq ?_
 | (apply aw_1
    conv => whnf
    refine ⟨?_, trivial⟩)
 | (apply s_pick_t rfl rfl
    · conv => lhs; whnf
    · conv => lhs; whnf
    · first | exact bT1 (by assumption) | exact bT2 (by assumption))
 | (apply s_1
    conv => whnf; arg 1; arg 4; arg 3; whnf
    refine ⟨?_, ?_⟩)
 | (apply s_box rfl rfl rfl rfl
    · conv => lhs; whnf; arg 1; whnf
    · rfl)
 | (apply s_wanted_val rfl
    · conv => lhs; whnf
    · conv => lhs; whnf
    · first | rfl | assumption
    · conv => lhs; whnf; arg 2; whnf)
 | (apply s_guard_val rfl
    · conv => lhs; whnf
    · conv => lhs; whnf
    · conv => lhs; whnf; arg 2; whnf)
 | (refine aw_cond (by conv => lhs; whnf) ?_ ?_ <;> intro hb)
 | refine k_seq_ret ?_
 | refine k_end_ret ?_
 | (refine ⟨_, by conv => lhs; whnf; arg 2; whnf, ?_⟩; conv => rhs; whnf)
 | exact trivial
 | intro hg)
    rw [opT, if_pos hc]; rfl
  · have kf : (((o.f 0).n == 1) == true) = true → (((o.f 1).s.toList == (⟨#[]⟩ : ByteArray).toList) == true) = true → ((((o.f 2).l.length : Int)) == 0) = true → False := fun h1 h2 h3 => hc ⟨by simpa using bT1 h1, e_eq (bT1 h2), leq0 h3⟩
    refine ac_enter 72 Tryz.func58 rfl rfl rfl rfl ?_
    intro s w he
    repeat' (first
 | apply aw_cutAt 3 (HhA o) rfl
 | apply aw_cutAt 6 (HhB o) rfl
 | exact (kf (by assumption) (by assumption) (by assumption)).elim
 | refine k_cut ?_
 | refine aw_region ?_
 | refine awo_nil ?_
 | refine k_seq ?_
 | (apply aw_1
    conv => whnf
    refine ⟨?_, trivial⟩)
 | (apply s_pick_t rfl rfl
    · conv => lhs; whnf
    · conv => lhs; whnf
    · first | exact bT1 (by assumption) | exact bT2 (by assumption))
 | (apply s_pick_f rfl rfl
    · conv => lhs; whnf
    · conv => lhs; whnf
    · first | exact bF1 (by assumption) | exact bF2 (by assumption))
 | (apply s_1
    conv => whnf; arg 1; arg 4; arg 3; whnf
    refine ⟨?_, ?_⟩)
 | (apply s_call rfl
    · conv => lhs; whnf
    · conv => lhs; whnf
    · first | exact hw)
 | (apply s_box rfl rfl rfl rfl
    · conv => lhs; whnf; arg 1; whnf
    · rfl)
 | (apply s_wanted_val rfl
    · conv => lhs; whnf
    · conv => lhs; whnf
    · first | rfl | assumption
    · conv => lhs; whnf; arg 2; whnf)
 | (apply s_skip rfl
    · conv => lhs; whnf
    · conv => lhs; whnf
    · first | rfl | assumption)
 | (apply s_guard_val rfl
    · conv => lhs; whnf
    · conv => lhs; whnf
    · conv => lhs; whnf; arg 2; whnf)
 | (refine aw_cond (by conv => lhs; whnf) ?_ ?_ <;> intro hb)
 | exact trivial
 | intro hg)
    all_goals first
      | exact Sub.live ⟨rfl, trivial⟩ ⟨rfl, trivial⟩
      | ((simp only [ByteArray.size_append, bs_size, lit_size, List.size_toArray, List.length_append, List.length_cons, List.length_nil, maxLen, Nat.reduceAdd, Int.toNat_natCast]; omega); done)
      | skip
    · have hne : ¬ tx (o.f 1).s = [] := s_ne hb
      refine Sub.live ⟨rfl, ?_, trivial⟩ ⟨rfl, trivial⟩
      show V.c (.string (bs (wordT (o.f 0).n) ++ (⟨#[32]⟩ ++ (o.f 1).s))) = V.c (.string (bs (opName o)))
      refine (str_eq ?_).symm
      rw [opName, if_neg hne]
      simp only [tx_append, tx_bs]; rfl
    · have hne : tx (o.f 1).s = [] := s_eq hb
      refine Sub.live ⟨rfl, ?_, trivial⟩ ⟨rfl, trivial⟩
      show V.c (.string (bs (wordT (o.f 0).n))) = V.c (.string (bs (opName o)))
      rw [opName, if_pos hne, List.append_nil]
    · refine aw_sub (Sub.own (t := 4) (e := 9) rfl rfl) ?_
      refine aw_loop (fun j st => ∃ i, i + j = (o.f 2).l.length ∧ Sub (cx EN Tryz.prog s w he) st (HhP K o i)) (o.f 2).l.length ⟨0, by omega, ?_⟩ ?_
      · exact Sub.live ⟨rfl, rfl, rfl, rfl, rfl, trivial⟩ ⟨rfl, trivial⟩
      · rintro j st ⟨i, hij, hs2⟩
        refine aw_sub hs2 ?_
        have htk := strsR_len (fun i => varT K (gD (o.f 2).l i)) i
        have hj2 : decide ((i : Int) < ((o.f 2).l.length : Int)) = false → AC EN Tryz.prog 59 [.sl 9 (strsJ (fun i => varT K (gD (o.f 2).l i)) i), .c (.string (bs [44, 32]))] (.c (.string (bs (varsT K (o.f 2).l)))) := fun hh => by
          have e : i = (o.f 2).l.length := by have := at_ge hh; omega
          rw [e]; exact hj
        have hv : decide ((i : Int) < ((o.f 2).l.length : Int)) = true → AC EN Tryz.prog 122 [.agg (cellsV Tryz.prog 12 84 ((gD (o.f 2).l i).f 3))] (.c (.string (bs (valT K ((gD (o.f 2).l i).f 3))))) := fun hh =>
          valueP_ac K _ (h.dp i (at_lt hh)) ((h.wide i).f 3) (h.good i (at_lt hh)) (h.sz (at_lt hh)).dflt
        have hr : decide ((i : Int) < ((o.f 2).l.length : Int)) = true → AC EN Tryz.prog 121 [.agg (cellsV Tryz.prog 12 71 ((gD (o.f 2).l i).f 1))] (.c (.string (bs (refB (tx (((gD (o.f 2).l i).f 1).f 0).s) (((gD (o.f 2).l i).f 1).f 1).l)))) := fun hh => by
          have z := h.sz (at_lt hh)
          exact refP_d _ (Nat.le_trans z.rname (by omega)) (Nat.le_trans z.wraps (by omega))
        have z : i < (o.f 2).l.length → VarSz K (gD (o.f 2).l i) := fun hh => h.sz hh
        by_cases hi : i < (o.f 2).l.length
        · obtain ⟨z1, z2, z3, z4, z5, z6⟩ := z hi
          repeat' (first
 | refine aw_region ?_
 | refine awo_nil ?_
 | refine k_seq ?_
 | refine k_block ?_
 | (apply aw_1
    conv => whnf
    refine ⟨?_, trivial⟩)
 | (apply s_1
    conv => whnf; arg 1; arg 4; arg 3; whnf
    refine ⟨?_, ?_⟩)
 | (apply s_call rfl
    · conv => lhs; whnf
    · conv => lhs; whnf
    · first | exact hv (by assumption) | exact hr (by assumption) | exact hj2 (by assumption))
 | (apply s_store rfl rfl rfl
    · conv => lhs; whnf
    · conv => lhs; whnf; arg 1; whnf
    · conv => lhs; whnf; arg 1; whnf
    · exact ⟨by kernel_rfl, by kernel_rfl⟩
    · rfl)
 | (apply s_app rfl rfl
    · conv => lhs; whnf
    · first | exact elemStr | (conv => lhs; whnf; arg 1; whnf)
    · first | exact fun _ => rfl | (intro _; kernel_rfl)
    · conv => lhs; whnf
    · conv => lhs; whnf; arg 1; whnf
    · conv => lhs; whnf)
 | (apply s_lit1 rfl rfl
    · conv => lhs; whnf
    · first | exact elemStr | (conv => lhs; whnf; arg 1; whnf)
    · conv => lhs; whnf; arg 1; whnf
    · rfl
    · rfl)
 | (apply aw_draw (by kernel_rfl) (by kernel_rfl))
 | apply y_nil
 | (apply y_val rfl
    · conv => lhs; whnf
    · conv => lhs; whnf; arg 2; whnf)
 | (apply y_call rfl
    · conv => lhs; whnf
    · conv => lhs; whnf
    · first | exact hv (by assumption) | exact hr (by assumption) | exact hj2 (by assumption))
 | exact apartB_none
 | exact apartB_nil
 | exact (1000000 : Nat)
 | (refine aw_cond (by conv => lhs; whnf) ?_ ?_ <;> intro hb)
 | refine k_seq_exit ?_
 | refine k_block_hit rfl ?_
 | refine k_loop_exit ?_
 | refine k_end_ret ?_
 | (refine ⟨_, by conv => lhs; whnf; arg 2; whnf, ?_⟩; conv => rhs; whnf)
 | exact trivial)
          all_goals first
            | exact i64_ok (by omega)
            | exact app_ok (by omega) (by omega)
            | ((simp only [ByteArray.size_append, bs_size, lit_size, List.size_toArray, List.length_append, List.length_cons, List.length_nil, maxLen, Nat.reduceAdd, Int.toNat_natCast]; omega); done)
            | exact at_ok hb
            | skip
          · have hhas : ((gD (o.f 2).l i).f 2).b = true := hb
            refine k_loop_next (j' := j - 1) (by omega) ⟨i + 1, by omega, Sub.live ⟨rfl, ?_, rfl, rfl, rfl, trivial⟩ ⟨?_, trivial⟩⟩
            · show V.own 4 _ (strsJ _ i ++ [.str (⟨#[36]⟩ ++ ((gD (o.f 2).l i).f 0).s ++ ⟨#[58, 32]⟩ ++ bs (refB (tx (((gD (o.f 2).l i).f 1).f 0).s) (((gD (o.f 2).l i).f 1).f 1).l) ++ (⟨#[32, 61, 32]⟩ ++ bs (valT K ((gD (o.f 2).l i).f 3))))]) = _
              rw [strsR_succ, varT, if_pos hhas, ← bs_append, ← bs_append, ← bs_append, ← bs_append, ← bs_append, bs_tx]; rfl
            · show some (Res.tok _ ((strsJ _ i).length + 1)) = _
              rw [strsR_succ, List.length_append]; rfl
          · have hhas : ¬ ((gD (o.f 2).l i).f 2).b = true := by
              have : ((gD (o.f 2).l i).f 2).b = false := hb
              rw [this]; decide
            refine k_loop_next (j' := j - 1) (by omega) ⟨i + 1, by omega, Sub.live ⟨rfl, ?_, rfl, rfl, rfl, trivial⟩ ⟨?_, trivial⟩⟩
            · show V.own 4 _ (strsJ _ i ++ [.str (⟨#[36]⟩ ++ ((gD (o.f 2).l i).f 0).s ++ ⟨#[58, 32]⟩ ++ bs (refB (tx (((gD (o.f 2).l i).f 1).f 0).s) (((gD (o.f 2).l i).f 1).f 1).l))]) = _
              rw [strsR_succ, varT, if_neg hhas, List.append_nil, ← bs_append, ← bs_append, ← bs_append, bs_tx]; rfl
            · show some (Res.tok _ ((strsJ _ i).length + 1)) = _
              rw [strsR_succ, List.length_append]; rfl
          all_goals
            rename_i h0
            have := at_ge h0
            omega
        · have hno : decide ((i : Int) < ((o.f 2).l.length : Int)) = true → False := fun h => hi (at_lt h)
          have e : i = (o.f 2).l.length := by omega
          repeat' (first
 | exact (hno (by assumption)).elim
 | refine aw_region ?_
 | refine awo_nil ?_
 | refine k_seq ?_
 | (apply aw_1
    conv => whnf
    refine ⟨?_, trivial⟩)
 | (apply s_1
    conv => whnf; arg 1; arg 4; arg 3; whnf
    refine ⟨?_, ?_⟩)
 | (apply s_call rfl
    · conv => lhs; whnf
    · conv => lhs; whnf
    · first | exact hv (by assumption) | exact hr (by assumption) | exact hj2 (by assumption))
 | (refine aw_cond (by conv => lhs; whnf) ?_ ?_ <;> intro hb)
 | refine k_seq_exit ?_
 | refine k_block_hit rfl ?_
 | refine k_loop_exit ?_
 | refine k_end_ret ?_
 | (refine ⟨_, by conv => lhs; whnf; arg 2; whnf, ?_⟩; conv => rhs; whnf)
 | exact trivial)
          all_goals first
            | ((simp only [ByteArray.size_append, bs_size, lit_size, List.size_toArray, List.length_append, List.length_cons, List.length_nil, maxLen, Nat.reduceAdd, Int.toNat_natCast]; omega); done)
            | skip
          · have hp : ¬ (o.f 2).l.length = 0 := by rw [htk] at hb; have := of_decide_eq_true hb; omega
            refine str_eq ?_
            rw [opT, if_neg hc, if_neg hp, ← opName]
            simp only [tx_append, tx_bs, List.append_assoc]; rfl
          · have hp : (o.f 2).l.length = 0 := by rw [htk] at hb; have := of_decide_eq_false hb; omega
            refine str_eq ?_
            rw [opT, if_neg hc, if_pos hp, ← opName, List.append_nil]
            simp only [tx_append, tx_bs, List.append_assoc]; rfl
end Go.Proofs.YthjiclhfhjdjpaaGreatDoor
namespace Go.Proofs.YthjiclhfhjdjpaaGreatDoor
open Go.RowKit
attribute [local irreducible] wpList Calls Code.wp AW AWo OpOk seqK blockK scopeK loopK endK AC absLex Yld Sub
attribute [local irreducible] ACB absLexG YldG
def blockT (K F : Nat) (first : List UInt8) (l : List D) : List UInt8 := lineT 0 first ++ selsT K F 1 l ++ lineT 0 [125]
def opB (K F : Nat) (o : D) : List UInt8 := blockT K F (opT K o) (o.f 3).l
def fragH (fr : D) : List UInt8 := [102, 114, 97, 103, 109, 101, 110, 116, 32] ++ tx (fr.f 0).s ++ [32, 111, 110, 32] ++ tx (fr.f 1).s ++ [32, 123]
def fragB (K F : Nat) (fr : D) : List UInt8 := blockT K F (fragH fr) (fr.f 2).l
/-- the text of a document of operations -/
def docT (K F : Nat) (q : D) : List UInt8 := Lib.join ((q.f 0).l.map (opB K F) ++ (q.f 1).l.map (fragB K F)) [10]
/-- what the printing of a document asks -/
structure DocOk (K f : Nat) (q : D) : Prop where
  wide : wideD q
  bulk : bulkD q ≤ 1048576
  deep : f ≤ 299
  vars : ∀ i, i < (q.f 0).l.length → VarsOk K ((gD (q.f 0).l i).f 2).l
  sels : ∀ i, i < (q.f 0).l.length → SelsOk K (f + 1) ((gD (q.f 0).l i).f 3).l
  frag : ∀ i, i < (q.f 1).l.length → SelsOk K (f + 1) ((gD (q.f 1).l i).f 2).l
set_option maxHeartbeats 8000000 in
set_option maxRecDepth 100000 in
theorem blockT_len (K f : Nat) (first : List UInt8) (l : List D) (hw : ∀ i, wideD (gD l i)) (hf : f ≤ 299) : (blockT K (f + 1) first l).length ≤ first.length + 1274 * bulkL l + 3 := by
  have h := selsT_len K (f + 1) 1 l hw
  have h2 : (4 * (1 + (f + 1)) + 70) * bulkL l ≤ 1274 * bulkL l := Nat.mul_le_mul_right _ (by omega)
  simp only [blockT, List.length_append, lineT_len, List.length_cons, List.length_nil]
  omega
set_option maxHeartbeats 8000000 in
set_option maxRecDepth 100000 in
theorem opT_len (K : Nat) (o : D) (h : wideD o) : (opT K o).length ≤ 18 + (o.f 1).s.size + 40 * bulkL (o.f 2).l := by
  have h1 := wordT_len (o.f 0).n
  have h2 := tx_len (o.f 1).s
  have h3 := varsT_len K (o.f 2).l fun i => (h.f 2).l i
  unfold opT
  split
  · simp; omega
  · split <;> split <;> simp only [List.length_append, List.length_cons, List.length_nil] <;> omega
set_option maxHeartbeats 8000000 in
set_option maxRecDepth 100000 in
theorem opB_len (K f : Nat) (o : D) (h : wideD o) (hf : f ≤ 299) : (opB K (f + 1) o).length + 1 ≤ 1274 * bulkD o := by
  have h1 := opT_len K o h
  have h2 := blockT_len K f (opT K o) (o.f 3).l (fun i => (h.f 3).l i) hf
  have h3 := wD_fields o 4
  have h4 := wD_str (o.f 1)
  have h5 := wD_list (o.f 2)
  have h6 := wD_list (o.f 3)
  have h7 := bulkD_wD o
  simp only [sumN] at h3
  unfold opB
  omega
set_option maxHeartbeats 8000000 in
set_option maxRecDepth 100000 in
theorem fragB_len (K f : Nat) (o : D) (h : wideD o) (hf : f ≤ 299) : (fragB K (f + 1) o).length + 1 ≤ 1274 * bulkD o := by
  have h2 := blockT_len K f (fragH o) (o.f 2).l (fun i => (h.f 2).l i) hf
  have h3 := wD_fields o 3
  have h4 := wD_str (o.f 0)
  have h5 := wD_str (o.f 1)
  have h6 := wD_list (o.f 2)
  have h7 := bulkD_wD o
  have h8 := tx_len (o.f 0).s
  have h9 := tx_len (o.f 1).s
  have h1 : (fragH o).length = 15 + (o.f 0).s.size + (o.f 1).s.size := by simp only [fragH, List.length_append, List.length_cons, List.length_nil]; omega
  simp only [sumN] at h3
  unfold fragB
  omega
set_option maxHeartbeats 8000000 in
set_option maxRecDepth 100000 in
theorem join_app_le (a b : List (List UInt8)) (sep : List UInt8) : (Lib.join (a ++ b) sep).length ≤ (a.map fun l => l.length + sep.length).sum + (b.map fun l => l.length + sep.length).sum := by
  refine Nat.le_trans (join_le sep _) ?_
  rw [List.map_append, List.sum_append]
  exact Nat.le_refl _
set_option maxHeartbeats 8000000 in
set_option maxRecDepth 100000 in
theorem sum_map_le (l : List D) (f : D → List UInt8) (s c : Nat) (h : ∀ i, i < l.length → (f (gD l i)).length + s ≤ c * bulkD (gD l i)) : ((l.map f).map fun t => t.length + s).sum ≤ c * bulkL l := by
  induction l with
  | nil => simp
  | cons x r ih =>
    have h0 := h 0 (by simp)
    have h1 := ih fun i hi => h (i + 1) (by simpa using hi)
    simp only [List.map_cons, List.sum_cons, bulkL, Nat.mul_add]
    have e : gD (x :: r) 0 = x := rfl
    rw [e] at h0
    omega
set_option maxHeartbeats 8000000 in
set_option maxRecDepth 100000 in
theorem docT_len (K f : Nat) (q : D) (h : wideD q) (hf : f ≤ 299) : (docT K (f + 1) q).length ≤ 1274 * bulkD q := by
  have h1 := join_app_le ((q.f 0).l.map (opB K (f + 1))) ((q.f 1).l.map (fragB K (f + 1))) [10]
  have h2 := sum_map_le (q.f 0).l (opB K (f + 1)) 1 1274 fun i _ => opB_len K f _ ((h.f 0).l i) hf
  have h3 := sum_map_le (q.f 1).l (fragB K (f + 1)) 1 1274 fun i _ => fragB_len K f _ ((h.f 1).l i) hf
  have h4 := wD_fields q 2
  have h5 := wD_list (q.f 0)
  have h6 := wD_list (q.f 1)
  have h7 := bulkD_wD q
  simp only [sumN] at h4
  unfold docT
  simp only [List.length_cons, List.length_nil, Nat.zero_add] at h1
  omega
set_option maxHeartbeats 8000000 in
set_option maxRecDepth 100000 in
theorem block_ac (K f : Nat) (first : List UInt8) (l : List D) (h : SelsOk K (f + 1) l) (hw : ∀ i, wideD (gD l i)) (hb : bulkL l ≤ 1048576) (hf : f ≤ 299) (hs : first.length ≤ 100000000) :
    AC EN Tryz.prog 57 [.c (.string (bs first)), .sl 76 l] (.c (.string (bs (blockT K (f + 1) first l)))) := by
  have h1 := selsT_len K (f + 1) 1 l hw
  have h2 : (4 * (1 + (f + 1)) + 70) * bulkL l ≤ 1274 * 1048576 := Nat.mul_le_mul (by omega) hb
  have l0 : ACB EN Tryz.prog 115 [.bx (pn 0) 0, .c (.int .i64 0), .c (.string (bs first))] [.bld 110 5 []] (.tup []) [.bld 110 5 (lineT 0 first)] :=
    line_acb [] 0 (bs first) (by omega) (by rw [bs_size]; omega) (by simp)
  have l1 : ACB EN Tryz.prog 55 [.bx (pn 0) 0, .sl 76 l, .c (.int .i64 1)] [.bld 110 5 (lineT 0 first)] (.tup []) [.bld 110 5 (lineT 0 first ++ selsT K (f + 1) 1 l)] :=
    sels_acb K f 1 l (lineT 0 first) h hw hb (by omega) (by rw [lineT_len]; omega)
  have l2 : ACB EN Tryz.prog 115 [.bx (pn 0) 0, .c (.int .i64 0), .c (.string ⟨#[125]⟩)] [.bld 110 5 (lineT 0 first ++ selsT K (f + 1) 1 l)] (.tup []) [.bld 110 5 (blockT K (f + 1) first l)] :=
    line_acb (lineT 0 first ++ selsT K (f + 1) 1 l) 0 ⟨#[125]⟩ (by omega) (by decide) (by rw [List.length_append, lineT_len]; omega)
  have hl := blockT_len K f first l hw hf
  refine ac_enter 13 Tryz.func57 rfl rfl rfl rfl ?_
  intro s w he
  repeat' (first
 | (apply s_bcall0 rfl
    · conv => lhs; whnf
    · conv => lhs; whnf
    · rfl
    · rfl
    · first | exact l0
    · rfl
    · exact fun _ => rfl
    · exact fun _ => rfl)
 | (apply s_bcall rfl
    · conv => lhs; whnf
    · conv => lhs; whnf
    · rfl
    · conv => lhs; whnf; arg 1; whnf
    · first | exact l1 | exact l2
    · exact fun _ => rfl
    · exact fun _ => rfl)
 | (apply s_bs rfl
    · conv => lhs; whnf
    · conv => lhs; whnf
    · rfl
    · conv => lhs; whnf; arg 1; whnf
    · exact ⟨rfl, rfl⟩
    · rfl)
 | refine aw_region ?_
 | refine awo_nil ?_
 | refine k_seq ?_
 | (apply aw_1
    conv => whnf
    refine ⟨?_, trivial⟩)
 | (apply s_1
    conv => whnf; arg 1; arg 4; arg 3; whnf
    refine ⟨?_, ?_⟩)
 | refine k_end_ret ?_
 | (refine ⟨_, by conv => lhs; whnf; arg 2; whnf, ?_⟩; conv => rhs; whnf)
 | exact trivial)
  all_goals (unfold maxLen; omega)
end Go.Proofs.YthjiclhfhjdjpaaGreatDoor
namespace Go.Proofs.YthjiclhfhjdjpaaGreatDoor
open Go.RowKit
set_option linter.unusedSectionVars false
attribute [local irreducible] wpList Calls Code.wp AW AWo OpOk seqK blockK scopeK loopK endK AC absLex Yld Sub
attribute [local irreducible] ACB ACX absLexG YldG absLexH
def wgA (most : Int) (l : List D) : Nat → Nat → Int → Int
  | 0, _, n => n
  | j + 1, i, n => if n ≤ most then wgA most l j (i + 1) (n + (sizeR (bulkD ((gD l i).f 1)) ((gD l i).f 1) : Int)) else n
def wgS (rec : List D → Int → Int) (most : Int) (l : List D) : Nat → Nat → Int → Int
  | 0, _, n => n
  | j + 1, i, n => if n ≤ most then wgS rec most l j (i + 1) (wgA most ((gD l i).f 4).l ((gD l i).f 4).l.length 0 (n + 1 + (((gD l i).f 4).l.length : Int) + (((gD l i).f 5).l.length : Int)) + rec ((gD l i).f 6).l (most - wgA most ((gD l i).f 4).l ((gD l i).f 4).l.length 0 (n + 1 + (((gD l i).f 4).l.length : Int) + (((gD l i).f 5).l.length : Int)))) else n
def wg : Nat → List D → Int → Int
  | 0, _, _ => 0
  | k + 1, l, most => wgS (wg k) most l l.length 0 0
def bA (l : List D) (i : Nat) : Nat := sumN (fun m => bulkD (gD l m)) i
set_option maxHeartbeats 8000000 in
set_option maxRecDepth 100000 in
theorem bA_succ (l : List D) (i : Nat) : bA l (i + 1) = bA l i + bulkD (gD l i) := rfl
set_option maxHeartbeats 8000000 in
set_option maxRecDepth 100000 in
theorem bA_le {l : List D} {i : Nat} (h : i ≤ l.length) : bA l i ≤ bulkL l := by
  rw [bulkL_sum]
  exact sumN_mono _ h
set_option maxHeartbeats 8000000 in
set_option maxRecDepth 100000 in
theorem val_le (a : D) : sizeR (bulkD (a.f 1)) (a.f 1) ≤ bulkD a := by
  have h1 := sizeR_le (bulkD (a.f 1)) (a.f 1)
  have h2 := wD_f a 1
  have h3 := bulkD_wD a
  have h4 := bulkD_wD (a.f 1)
  omega
set_option maxHeartbeats 8000000 in
set_option maxRecDepth 100000 in
theorem wgA_range (most : Int) (l : List D) : ∀ (j i : Nat) (n : Int), n ≤ wgA most l j i n ∧ wgA most l j i n ≤ n + ((bA l (i + j) : Nat) : Int) - ((bA l i : Nat) : Int)
  | 0, i, n => by simp only [wgA, Nat.add_zero]; omega
  | j + 1, i, n => by
    have ih := wgA_range most l j (i + 1) (n + (sizeR (bulkD ((gD l i).f 1)) ((gD l i).f 1) : Int))
    have h1 := val_le (gD l i)
    have h2 := bA_succ l i
    have h3 := sumN_mono (fun m => bulkD (gD l m)) (show i ≤ i + (j + 1) by omega)
    have h4 : bA l i ≤ bA l (i + (j + 1)) := h3
    rw [show i + 1 + j = i + (j + 1) by omega] at ih
    unfold wgA
    split <;> omega
set_option maxHeartbeats 8000000 in
set_option maxRecDepth 100000 in
theorem sel_parts (s : D) : 1 + bulkL (s.f 4).l + bulkL (s.f 5).l + bulkL (s.f 6).l ≤ bulkD s := by
  have hf := wD_fields s 7
  simp only [sumN] at hf
  have h4 := wD_list (s.f 4)
  have h5 := wD_list (s.f 5)
  have h6 := wD_list (s.f 6)
  have h7 := bulkD_wD s
  omega
set_option maxHeartbeats 8000000 in
set_option maxRecDepth 100000 in
/-- what a selection weighs apart from those within it -/
theorem sel_own (most : Int) (s : D) (n : Int) : n ≤ wgA most (s.f 4).l (s.f 4).l.length 0 (n + 1 + ((s.f 4).l.length : Int) + ((s.f 5).l.length : Int)) ∧
    wgA most (s.f 4).l (s.f 4).l.length 0 (n + 1 + ((s.f 4).l.length : Int) + ((s.f 5).l.length : Int)) + 2 * (bulkL (s.f 6).l : Int) ≤ n + 2 * (bulkD s : Int) := by
  have h1 := wgA_range most (s.f 4).l (s.f 4).l.length 0 (n + 1 + ((s.f 4).l.length : Int) + ((s.f 5).l.length : Int))
  have h2 := sel_parts s
  have h3 := len_bulk (s.f 4).l
  have h4 := len_bulk (s.f 5).l
  have h5 := bA_le (l := (s.f 4).l) (i := 0 + (s.f 4).l.length) (by omega)
  omega
set_option maxHeartbeats 8000000 in
set_option maxRecDepth 100000 in
theorem wgS_range {rec : List D → Int → Int} {most : Int} (hrec : ∀ l m, 0 ≤ rec l m ∧ rec l m ≤ 2 * (bulkL l : Int)) (l : List D) : ∀ (j i : Nat) (n : Int), n ≤ wgS rec most l j i n ∧ wgS rec most l j i n ≤ n + 2 * ((bA l (i + j) : Nat) : Int) - 2 * ((bA l i : Nat) : Int)
  | 0, i, n => by simp only [wgS, Nat.add_zero]; omega
  | j + 1, i, n => by
    have h1 := sel_own most (gD l i) n
    have h2 := hrec ((gD l i).f 6).l (most - wgA most ((gD l i).f 4).l ((gD l i).f 4).l.length 0 (n + 1 + (((gD l i).f 4).l.length : Int) + (((gD l i).f 5).l.length : Int)))
    have ih := wgS_range (most := most) hrec l j (i + 1) (wgA most ((gD l i).f 4).l ((gD l i).f 4).l.length 0 (n + 1 + (((gD l i).f 4).l.length : Int) + (((gD l i).f 5).l.length : Int)) + rec ((gD l i).f 6).l (most - wgA most ((gD l i).f 4).l ((gD l i).f 4).l.length 0 (n + 1 + (((gD l i).f 4).l.length : Int) + (((gD l i).f 5).l.length : Int))))
    have h3 := bA_succ l i
    have h4 : bA l i ≤ bA l (i + (j + 1)) := sumN_mono (fun m => bulkD (gD l m)) (show i ≤ i + (j + 1) by omega)
    rw [show i + 1 + j = i + (j + 1) by omega] at ih
    unfold wgS
    split <;> omega
set_option maxHeartbeats 8000000 in
set_option maxRecDepth 100000 in
theorem wg_range : ∀ (k : Nat) (l : List D) (most : Int), 0 ≤ wg k l most ∧ wg k l most ≤ 2 * (bulkL l : Int)
  | 0, l, most => by simp only [wg]; omega
  | k + 1, l, most => by
    have h := wgS_range (most := most) (fun l m => wg_range k l m) l l.length 0 0
    have h2 := bA_le (l := l) (i := 0 + l.length) (by omega)
    unfold wg
    omega
noncomputable def HWo (l : List D) (most n : Int) (i : Nat) : Vst 74 := stS 74 [(0, .sl 76 l), (1, .c (.int .i64 most)), (5, .c (.int .i64 n)), (6, .c (.int .i64 (i : Int)))] []
noncomputable def HWj (l : List D) (most n : Int) (i k : Nat) : Vst 74 := stS 74 [(0, .sl 76 l), (1, .c (.int .i64 most)), (5, .c (.int .i64 n)), (6, .c (.int .i64 (i : Int))), (7, .c (.int .i64 (k : Int)))] []
set_option maxHeartbeats 8000000 in
set_option maxRecDepth 100000 in
theorem gt_of {b : Bool} (h : b = true) : (b == true) = true := by rw [h]; rfl
set_option maxHeartbeats 8000000 in
set_option maxRecDepth 100000 in
theorem gf_of {b : Bool} (h : b = false) : (b == true) = false := by rw [h]; rfl
set_option maxHeartbeats 8000000 in
set_option maxRecDepth 100000 in
theorem weigh_ac : ∀ (k : Nat) (l : List D) (most : Int), bulkL l < k → bulkL l ≤ 1000000000 → most ≤ 600 → -(4000000000000 : Int) ≤ most - 2 * (bulkL l : Int) →
    AC EN Tryz.prog 61 [.sl 76 l, .c (.int .i64 most)] (.c (.int .i64 (wg k l most)))
  | 0, _, _, h, _, _, _ => by omega
  | k + 1, l, most, h, hw, hhi, hlo => by
    have hlen := len_bulk l
    have hR : wgS (wg k) most l l.length 0 0 = wg (k + 1) l most := rfl
    generalize wg (k + 1) l most = R at hR ⊢
    refine ac_enter 74 Tryz.func61 rfl rfl rfl rfl ?_
    intro s w he
    repeat' (first
 | refine aw_region ?_
 | refine awo_nil ?_
 | refine k_seq ?_
 | (apply aw_1
    conv => whnf
    refine ⟨?_, trivial⟩)
 | (apply s_1
    conv => whnf; arg 1; arg 4; arg 3; whnf
    refine ⟨?_, ?_⟩)
 | exact trivial)
    refine aw_loop (fun j st => ∃ i n, i + j = l.length ∧ wgS (wg k) most l j i n = R ∧ 0 ≤ n ∧ n ≤ 2 * ((bA l i : Nat) : Int) ∧ Sub (cx EN Tryz.prog s w he) st (HWo l most n i)) l.length ⟨0, 0, by omega, hR, Int.le_refl _, by simp [bA, sumN], Sub.live ⟨rfl, rfl, rfl, rfl, trivial⟩ trivial⟩ ?_
    clear hR
    rintro j st ⟨i, n, hij, hR, hn0, hn1, hs2⟩
    refine aw_sub hs2 ?_
    clear hs2
    have hbi := bA_le (l := l) (i := i) (by omega)
    by_cases hi : i < l.length
    rotate_left 1
    · have f0 : decide ((i : Int) < (l.length : Nat)) = false := decide_eq_false (by omega)
      have g0 := gf_of f0
      obtain rfl : j = 0 := by omega
      repeat' (first
 | refine aw_region ?_
 | refine awo_nil ?_
 | refine k_seq ?_
 | (apply aw_1
    conv => whnf
    refine ⟨?_, trivial⟩)
 | (apply s_pick_f rfl rfl
    · conv => lhs; whnf
    · conv => lhs; whnf
    · first | exact bF1 (by assumption) | exact bF2 (by assumption))
 | (apply s_1
    conv => whnf; arg 1; arg 4; arg 3; whnf
    refine ⟨?_, ?_⟩)
 | (apply s_skipU rfl
    · conv => lhs; whnf
    · conv => lhs; whnf
    · first | rfl | assumption)
 | refine k_seq_exit ?_
 | refine k_block_hit rfl ?_
 | refine k_loop_exit ?_
 | refine k_end_ret ?_
 | (refine ⟨_, by conv => lhs; whnf; arg 2; whnf, ?_⟩; conv => rhs; whnf)
 | exact trivial)
      all_goals first
        | exact i64_ok (by omega)
        | exact i64_ok (by simp only [Int.toNat_natCast, Nat.zero_add, Nat.reduceAdd]; omega)
        | (rw [← hR]; rfl)
    have f0 : decide ((i : Int) < (l.length : Nat)) = true := decide_eq_true (by omega)
    have g0 := gt_of f0
    obtain ⟨j, rfl⟩ : ∃ q, j = q + 1 := ⟨j - 1, by omega⟩
    by_cases hm : n ≤ most
    rotate_left 1
    · have f1 : decide (n ≤ most) = false := decide_eq_false hm
      repeat' (first
 | (apply aw_cond_kf
    · conv => lhs; whnf
    · assumption)
 | refine aw_region ?_
 | refine awo_nil ?_
 | refine k_seq ?_
 | (apply aw_1
    conv => whnf
    refine ⟨?_, trivial⟩)
 | (apply s_pick_t rfl rfl
    · conv => lhs; whnf
    · conv => lhs; whnf
    · first | exact bT1 (by assumption) | exact bT2 (by assumption))
 | (apply s_1
    conv => whnf; arg 1; arg 4; arg 3; whnf
    refine ⟨?_, ?_⟩)
 | (apply s_wanted_val rfl
    · conv => lhs; whnf
    · conv => lhs; whnf
    · first | rfl | assumption
    · conv => lhs; whnf; arg 2; whnf)
 | refine k_seq_exit ?_
 | refine k_block_hit rfl ?_
 | refine k_loop_exit ?_
 | refine k_end_ret ?_
 | (refine ⟨_, by conv => lhs; whnf; arg 2; whnf, ?_⟩; conv => rhs; whnf)
 | exact trivial)
      all_goals first
        | exact i64_ok (by omega)
        | exact i64_ok (by simp only [Int.toNat_natCast, Nat.zero_add, Nat.reduceAdd]; omega)
        | (rw [← hR]; unfold wgS; rw [if_neg hm])
    have f1 : decide (n ≤ most) = true := decide_eq_true hm
    unfold wgS at hR
    rw [if_pos hm] at hR
    have hown := sel_own most (gD l i) n
    have hbs := bA_succ l i
    have hbi2 := bA_le (l := l) (i := i + 1) (by omega)
    have hpt := sel_parts (gD l i)
    have hl4 := len_bulk ((gD l i).f 4).l
    have hl5 := len_bulk ((gD l i).f 5).l
    have hget := bulkL_get hi
    have ih := weigh_ac k ((gD l i).f 6).l (most - wgA most ((gD l i).f 4).l ((gD l i).f 4).l.length 0 (n + 1 + (((gD l i).f 4).l.length : Int) + (((gD l i).f 5).l.length : Int))) (by omega) (by omega) (by omega) (by omega)
    have hwr := wg_range k ((gD l i).f 6).l (most - wgA most ((gD l i).f 4).l ((gD l i).f 4).l.length 0 (n + 1 + (((gD l i).f 4).l.length : Int) + (((gD l i).f 5).l.length : Int)))
    generalize hN : wgA most ((gD l i).f 4).l ((gD l i).f 4).l.length 0 (n + 1 + (((gD l i).f 4).l.length : Int) + (((gD l i).f 5).l.length : Int)) = N at *
    repeat' (first
 | (apply aw_cond_kt
    · conv => lhs; whnf
    · assumption)
 | refine aw_region ?_
 | refine awo_nil ?_
 | refine k_seq ?_
 | (apply aw_1
    conv => whnf
    refine ⟨?_, trivial⟩)
 | (apply s_pick_t rfl rfl
    · conv => lhs; whnf
    · conv => lhs; whnf
    · first | exact bT1 (by assumption) | exact bT2 (by assumption))
 | (apply s_1
    conv => whnf; arg 1; arg 4; arg 3; whnf
    refine ⟨?_, ?_⟩)
 | (apply s_wanted_val rfl
    · conv => lhs; whnf
    · conv => lhs; whnf
    · first | rfl | assumption
    · conv => lhs; whnf; arg 2; whnf)
 | (apply aw_draw (by kernel_rfl) (by kernel_rfl))
 | apply y_nil
 | (apply y_val rfl
    · conv => lhs; whnf
    · conv => lhs; whnf; arg 2; whnf)
 | exact apartB_none
 | exact apartB_nil
 | exact (1000000 : Nat)
 | exact trivial)
    all_goals first
      | exact i64_ok (by omega)
      | exact i64_ok (by simp only [Int.toNat_natCast, Nat.zero_add, Nat.reduceAdd]; omega)
      | exact at_in hi
      | skip
    refine aw_loop (fun j2 st => ∃ q n2, q + j2 = ((gD l i).f 4).l.length ∧ wgA most ((gD l i).f 4).l j2 q n2 = N ∧ n ≤ n2 ∧ Sub (cx EN Tryz.prog s w he) st (HWj l most n2 i q)) ((gD l i).f 4).l.length ⟨0, n + 1 + (((gD l i).f 4).l.length : Int) + (((gD l i).f 5).l.length : Int), by omega, hN, by omega, Sub.live ⟨rfl, rfl, rfl, rfl, rfl, trivial⟩ trivial⟩ ?_
    clear hN
    rintro j2 st2 ⟨q, n2, hqj, hN, hn2, hs3⟩
    refine aw_sub hs3 ?_
    clear hs3
    have hrg := wgA_range most ((gD l i).f 4).l j2 q n2
    rw [hN] at hrg
    by_cases hq : q < ((gD l i).f 4).l.length
    rotate_left 1
    · have f2 : decide ((q : Int) < (((gD l i).f 4).l.length : Nat)) = false := decide_eq_false (by omega)
      have g2 := gf_of f2
      obtain rfl : j2 = 0 := by omega
      have e : n2 = N := hN
      subst e
      repeat' (first
 | refine aw_region ?_
 | refine awo_nil ?_
 | refine k_seq ?_
 | refine k_block ?_
 | (apply aw_1
    conv => whnf
    refine ⟨?_, trivial⟩)
 | (apply s_pick_f rfl rfl
    · conv => lhs; whnf
    · conv => lhs; whnf
    · first | exact bF1 (by assumption) | exact bF2 (by assumption))
 | (apply s_1
    conv => whnf; arg 1; arg 4; arg 3; whnf
    refine ⟨?_, ?_⟩)
 | (apply s_call rfl
    · conv => lhs; whnf
    · conv => lhs; whnf
    · first | exact ih)
 | (apply s_skipU rfl
    · conv => lhs; whnf
    · conv => lhs; whnf
    · first | rfl | assumption)
 | refine k_seq_exit ?_
 | refine k_block_hit rfl ?_
 | refine k_loop_exit ?_
 | exact trivial)
      all_goals first
        | exact i64_ok (by omega)
        | exact i64_ok (by simp only [Int.toNat_natCast, Nat.zero_add, Nat.reduceAdd]; omega)
        | exact at_in hi
        | exact k_loop_next (Nat.lt_succ_self j) ⟨i + 1, _, by omega, hR, by omega, by omega, Sub.live ⟨rfl, rfl, rfl, rfl, trivial⟩ trivial⟩
    have f2 : decide ((q : Int) < (((gD l i).f 4).l.length : Nat)) = true := decide_eq_true (by omega)
    have g2 := gt_of f2
    obtain ⟨j2, rfl⟩ : ∃ z, j2 = z + 1 := ⟨j2 - 1, by omega⟩
    by_cases hm2 : n2 ≤ most
    rotate_left 1
    · have f3 : decide (n2 ≤ most) = false := decide_eq_false hm2
      have e : n2 = N := by rw [← hN]; unfold wgA; rw [if_neg hm2]
      subst e
      repeat' (first
 | (apply aw_cond_kf
    · conv => lhs; whnf
    · assumption)
 | refine aw_region ?_
 | refine awo_nil ?_
 | refine k_seq ?_
 | refine k_block ?_
 | (apply aw_1
    conv => whnf
    refine ⟨?_, trivial⟩)
 | (apply s_pick_t rfl rfl
    · conv => lhs; whnf
    · conv => lhs; whnf
    · first | exact bT1 (by assumption) | exact bT2 (by assumption))
 | (apply s_1
    conv => whnf; arg 1; arg 4; arg 3; whnf
    refine ⟨?_, ?_⟩)
 | (apply s_call rfl
    · conv => lhs; whnf
    · conv => lhs; whnf
    · first | exact ih)
 | (apply s_wanted_val rfl
    · conv => lhs; whnf
    · conv => lhs; whnf
    · first | rfl | assumption
    · conv => lhs; whnf; arg 2; whnf)
 | refine k_seq_exit ?_
 | refine k_block_hit rfl ?_
 | refine k_loop_exit ?_
 | exact trivial)
      all_goals first
        | exact i64_ok (by omega)
        | exact i64_ok (by simp only [Int.toNat_natCast, Nat.zero_add, Nat.reduceAdd]; omega)
        | exact at_in hi
        | exact k_loop_next (Nat.lt_succ_self j) ⟨i + 1, _, by omega, hR, by omega, by omega, Sub.live ⟨rfl, rfl, rfl, rfl, trivial⟩ trivial⟩
    have f3 : decide (n2 ≤ most) = true := decide_eq_true hm2
    unfold wgA at hN
    rw [if_pos hm2] at hN
    have hga := bulkL_get hq
    have hvl := val_le (gD ((gD l i).f 4).l q)
    have hb1 := bulkD_wD ((gD ((gD l i).f 4).l q).f 1)
    have hb2 := wD_f (gD ((gD l i).f 4).l q) 1
    have hb3 := bulkD_wD (gD ((gD l i).f 4).l q)
    have hsz := sizeF_ac (bulkD ((gD ((gD l i).f 4).l q).f 1)) ((gD ((gD l i).f 4).l q).f 1) (dp_bulk _ _ (Nat.le_refl _)) (by omega)
    repeat' (first
 | (apply aw_cond_kt
    · conv => lhs; whnf
    · assumption)
 | refine aw_region ?_
 | refine awo_nil ?_
 | refine k_seq ?_
 | refine k_block ?_
 | (apply aw_1
    conv => whnf
    refine ⟨?_, trivial⟩)
 | (apply s_pick_t rfl rfl
    · conv => lhs; whnf
    · conv => lhs; whnf
    · first | exact bT1 (by assumption) | exact bT2 (by assumption))
 | (apply s_1
    conv => whnf; arg 1; arg 4; arg 3; whnf
    refine ⟨?_, ?_⟩)
 | (apply s_call rfl
    · conv => lhs; whnf
    · conv => lhs; whnf
    · first | exact hsz)
 | (apply s_wanted_val rfl
    · conv => lhs; whnf
    · conv => lhs; whnf
    · first | rfl | assumption
    · conv => lhs; whnf; arg 2; whnf)
 | exact trivial)
    all_goals first
      | exact i64_ok (by omega)
      | exact i64_ok (by simp only [Int.toNat_natCast, Nat.zero_add, Nat.reduceAdd]; omega)
      | exact at_in hi
      | exact at_in hq
      | exact k_loop_next (Nat.lt_succ_self j2) ⟨q + 1, _, by omega, hN, by omega, Sub.live ⟨rfl, rfl, rfl, rfl, rfl, trivial⟩ trivial⟩
def lgO (l : List D) : Nat → Nat → Int → Int
  | 0, _, n => n
  | j + 1, i, n => if n ≤ 600 then lgO l j (i + 1) (n + (((gD l i).f 2).l.length : Int) + wg (bulkL ((gD l i).f 3).l + 1) ((gD l i).f 3).l 600) else n
def lgF (l : List D) : Nat → Nat → Int → Int
  | 0, _, n => n
  | j + 1, i, n => if n ≤ 600 then lgF l j (i + 1) (n + wg (bulkL ((gD l i).f 2).l + 1) ((gD l i).f 2).l 600) else n
/-- whether a document is too large -/
def largeV (a b : List D) : Bool := decide (lgF b b.length 0 (lgO a a.length 0 ((a.length : Int) + (b.length : Int))) > 600)
set_option maxHeartbeats 8000000 in
set_option maxRecDepth 100000 in
theorem op_parts (o : D) : ((o.f 2).l.length : Int) + 2 * (bulkL (o.f 3).l : Int) ≤ 2 * (bulkD o : Int) := by
  have hf := wD_fields o 4
  simp only [sumN] at hf
  have h4 := wD_list (o.f 2)
  have h5 := wD_list (o.f 3)
  have h7 := bulkD_wD o
  have h8 := len_bulk (o.f 2).l
  omega
set_option maxHeartbeats 8000000 in
set_option maxRecDepth 100000 in
theorem frag_parts (o : D) : 2 * (bulkL (o.f 2).l : Int) ≤ 2 * (bulkD o : Int) := by
  have hf := wD_f o 2
  have h5 := wD_list (o.f 2)
  have h7 := bulkD_wD o
  omega
set_option maxHeartbeats 8000000 in
set_option maxRecDepth 100000 in
theorem lgO_range (l : List D) : ∀ (j i : Nat) (n : Int), n ≤ lgO l j i n ∧ lgO l j i n ≤ n + 2 * ((bA l (i + j) : Nat) : Int) - 2 * ((bA l i : Nat) : Int)
  | 0, i, n => by simp only [lgO, Nat.add_zero]; omega
  | j + 1, i, n => by
    have ih := lgO_range l j (i + 1) (n + (((gD l i).f 2).l.length : Int) + wg (bulkL ((gD l i).f 3).l + 1) ((gD l i).f 3).l 600)
    have h1 := op_parts (gD l i)
    have h2 := wg_range (bulkL ((gD l i).f 3).l + 1) ((gD l i).f 3).l 600
    have h3 := bA_succ l i
    have h4 : bA l i ≤ bA l (i + (j + 1)) := sumN_mono (fun m => bulkD (gD l m)) (show i ≤ i + (j + 1) by omega)
    rw [show i + 1 + j = i + (j + 1) by omega] at ih
    unfold lgO
    split <;> omega
noncomputable def HLo (a b : List D) (n : Int) (i : Nat) : Vst 63 := stS 63 [(1, .bx 1 0), (3, .c (.int .i64 n)), (4, .c (.int .i64 (i : Int)))] [(1, .box 41 [.sl 57 a, .sl 116 b])]
noncomputable def HLf (a b : List D) (n : Int) (i : Nat) : Vst 63 := stS 63 [(1, .bx 1 0), (3, .c (.int .i64 n)), (5, .c (.int .i64 (i : Int)))] [(1, .box 41 [.sl 57 a, .sl 116 b])]
set_option maxHeartbeats 8000000 in
set_option maxRecDepth 100000 in
theorem large_ac (a b : List D) (hwa : bulkL a ≤ 1000000000) (hwb : bulkL b ≤ 1000000000) : AC EN Tryz.prog 30 [.agg [.sl 57 a, .sl 116 b]] (.c (.bool (largeV a b))) := by
  have hla := len_bulk a
  have hlb := len_bulk b
  have hA := lgO_range a a.length 0 ((a.length : Int) + (b.length : Int))
  have hA2 := bA_le (l := a) (i := 0 + a.length) (by omega)
  unfold largeV
  generalize hR : lgO a a.length 0 ((a.length : Int) + (b.length : Int)) = R at *
  refine ac_enter 63 Tryz.func30 rfl rfl rfl rfl ?_
  intro s w he
  repeat' (first
 | refine aw_region ?_
 | refine awo_nil ?_
 | refine k_seq ?_
 | (apply aw_1
    conv => whnf
    refine ⟨?_, trivial⟩)
 | (apply s_1
    conv => whnf; arg 1; arg 4; arg 3; whnf
    refine ⟨?_, ?_⟩)
 | (apply s_box rfl rfl rfl rfl
    · conv => lhs; whnf; arg 1; whnf
    · rfl)
 | exact trivial)
  all_goals first
    | exact i64_ok (by omega)
    | exact i64_ok (by simp only [Int.toNat_natCast, Nat.zero_add, Nat.reduceAdd]; omega)
    | skip
  refine aw_loop (fun j st => ∃ i n, i + j = a.length ∧ lgO a j i n = R ∧ 0 ≤ n ∧ n ≤ R ∧ Sub (cx EN Tryz.prog s w he) st (HLo a b n i)) a.length ⟨0, (a.length : Int) + (b.length : Int), by omega, hR, by omega, by omega, Sub.live ⟨rfl, rfl, rfl, trivial⟩ ⟨rfl, trivial⟩⟩ ?_
  clear hR
  rintro j st ⟨i, n, hij, hR, hn0, hn1, hs2⟩
  refine aw_sub hs2 ?_
  clear hs2
  -- behind the operations
  have hend : n = R → ∀ st, Sub (cx EN Tryz.prog s w he) st (HLo a b R i) → Sub (cx EN Tryz.prog s w he) st (HLo a b R i) := fun _ _ h => h
  by_cases hi : i < a.length ∧ n ≤ 600
  · obtain ⟨hi, hm⟩ := hi
    have f0 : decide ((i : Int) < (a.length : Nat)) = true := decide_eq_true (by omega)
    have g0 := gt_of f0
    have f1 : decide (n ≤ 600) = true := decide_eq_true hm
    obtain ⟨j, rfl⟩ : ∃ q, j = q + 1 := ⟨j - 1, by omega⟩
    unfold lgO at hR
    rw [if_pos hm] at hR
    have hget := bulkL_get hi
    have hpt := op_parts (gD a i)
    have hwr := wg_range (bulkL ((gD a i).f 3).l + 1) ((gD a i).f 3).l 600
    have hrg := lgO_range a j (i + 1) (n + (((gD a i).f 2).l.length : Int) + wg (bulkL ((gD a i).f 3).l + 1) ((gD a i).f 3).l 600)
    rw [hR] at hrg
    have hW := weigh_ac (bulkL ((gD a i).f 3).l + 1) ((gD a i).f 3).l 600 (Nat.lt_succ_self _) (by omega) (by omega) (by omega)
    repeat' (first
 | (apply aw_cond_kt
    · conv => lhs; whnf
    · assumption)
 | refine aw_region ?_
 | refine awo_nil ?_
 | refine k_seq ?_
 | refine k_block ?_
 | (apply aw_1
    conv => whnf
    refine ⟨?_, trivial⟩)
 | (apply s_pick_t rfl rfl
    · conv => lhs; whnf
    · conv => lhs; whnf
    · first | exact bT1 (by assumption) | exact bT2 (by assumption))
 | (apply s_1
    conv => whnf; arg 1; arg 4; arg 3; whnf
    refine ⟨?_, ?_⟩)
 | (apply s_wanted_val rfl
    · conv => lhs; whnf
    · conv => lhs; whnf
    · first | rfl | assumption
    · conv => lhs; whnf; arg 2; whnf)
 | (apply aw_draw (by kernel_rfl) (by kernel_rfl))
 | apply y_nil
 | (apply y_val rfl
    · conv => lhs; whnf
    · conv => lhs; whnf; arg 2; whnf)
 | (apply y_call rfl
    · conv => lhs; whnf
    · conv => lhs; whnf
    · first | exact hW)
 | exact apartB_none
 | exact apartB_nil
 | exact (1000000 : Nat)
 | exact trivial)
    all_goals first
      | exact i64_ok (by omega)
      | exact i64_ok (by simp only [Int.toNat_natCast, Nat.zero_add, Nat.reduceAdd]; omega)
      | exact at_in hi
      | exact k_loop_next (Nat.lt_succ_self j) ⟨i + 1, _, by omega, hR, by omega, by omega, Sub.live ⟨rfl, rfl, rfl, trivial⟩ ⟨rfl, trivial⟩⟩
  · have e : n = R := by
      rw [← hR]
      cases j with
      | zero => rfl
      | succ j => unfold lgO; rw [if_neg (fun h => hi ⟨by omega, h⟩)]
    subst e
    have hF := fun (z : Int) => True
    by_cases hia : i < a.length
    · have hm : ¬ n ≤ 600 := fun h => hi ⟨hia, h⟩
      have f0 : decide ((i : Int) < (a.length : Nat)) = true := decide_eq_true (by omega)
      have g0 := gt_of f0
      have f1 : decide (n ≤ 600) = false := decide_eq_false hm
      have hL : lgF b b.length 0 n = n := by
        cases hb : b.length with
        | zero => rfl
        | succ m => unfold lgF; rw [if_neg hm]
      rw [hL]
      repeat' (first
 | (apply aw_cond_kf
    · conv => lhs; whnf
    · assumption)
 | refine aw_region ?_
 | refine awo_nil ?_
 | refine k_seq ?_
 | (apply aw_1
    conv => whnf
    refine ⟨?_, trivial⟩)
 | (apply s_pick_t rfl rfl
    · conv => lhs; whnf
    · conv => lhs; whnf
    · first | exact bT1 (by assumption) | exact bT2 (by assumption))
 | (apply s_1
    conv => whnf; arg 1; arg 4; arg 3; whnf
    refine ⟨?_, ?_⟩)
 | (apply s_wanted_val rfl
    · conv => lhs; whnf
    · conv => lhs; whnf
    · first | rfl | assumption
    · conv => lhs; whnf; arg 2; whnf)
 | refine k_seq_exit ?_
 | refine k_block_hit rfl ?_
 | refine k_loop_exit ?_
 | exact trivial)
      all_goals first
        | exact i64_ok (by omega)
        | exact i64_ok (by simp only [Int.toNat_natCast, Nat.zero_add, Nat.reduceAdd]; omega)
        | skip
      by_cases hb : 0 < b.length
      · have f2 : decide ((0 : Int) < (b.length : Nat)) = true := decide_eq_true (by omega)
        have g2 := gt_of f2
        refine aw_loop (fun j st => Sub (cx EN Tryz.prog s w he) st (HLf a b n 0)) 0 (Sub.live ⟨rfl, rfl, rfl, trivial⟩ ⟨rfl, trivial⟩) ?_
        rintro j2 st2 hs3
        refine aw_sub hs3 ?_
        clear hs3
        repeat' (first
 | (apply aw_cond_kf
    · conv => lhs; whnf
    · assumption)
 | refine aw_region ?_
 | refine awo_nil ?_
 | refine k_seq ?_
 | (apply aw_1
    conv => whnf
    refine ⟨?_, trivial⟩)
 | (apply s_pick_t rfl rfl
    · conv => lhs; whnf
    · conv => lhs; whnf
    · first | exact bT1 (by assumption) | exact bT2 (by assumption))
 | (apply s_1
    conv => whnf; arg 1; arg 4; arg 3; whnf
    refine ⟨?_, ?_⟩)
 | (apply s_wanted_val rfl
    · conv => lhs; whnf
    · conv => lhs; whnf
    · first | rfl | assumption
    · conv => lhs; whnf; arg 2; whnf)
 | refine k_seq_exit ?_
 | refine k_block_hit rfl ?_
 | refine k_loop_exit ?_
 | refine k_end_ret ?_
 | (refine ⟨_, by conv => lhs; whnf; arg 2; whnf, ?_⟩; conv => rhs; whnf)
 | exact trivial)
        all_goals first
          | exact i64_ok (by omega)
          | exact i64_ok (by simp only [Int.toNat_natCast, Nat.zero_add, Nat.reduceAdd]; omega)
          | rfl
      · have f2 : decide ((0 : Int) < (b.length : Nat)) = false := decide_eq_false (by omega)
        have g2 := gf_of f2
        refine aw_loop (fun j st => Sub (cx EN Tryz.prog s w he) st (HLf a b n 0)) 0 (Sub.live ⟨rfl, rfl, rfl, trivial⟩ ⟨rfl, trivial⟩) ?_
        rintro j2 st2 hs3
        refine aw_sub hs3 ?_
        clear hs3
        repeat' (first
 | refine aw_region ?_
 | refine awo_nil ?_
 | refine k_seq ?_
 | (apply aw_1
    conv => whnf
    refine ⟨?_, trivial⟩)
 | (apply s_pick_f rfl rfl
    · conv => lhs; whnf
    · conv => lhs; whnf
    · first | exact bF1 (by assumption) | exact bF2 (by assumption))
 | (apply s_1
    conv => whnf; arg 1; arg 4; arg 3; whnf
    refine ⟨?_, ?_⟩)
 | (apply s_skipU rfl
    · conv => lhs; whnf
    · conv => lhs; whnf
    · first | rfl | assumption)
 | refine k_seq_exit ?_
 | refine k_block_hit rfl ?_
 | refine k_loop_exit ?_
 | refine k_end_ret ?_
 | (refine ⟨_, by conv => lhs; whnf; arg 2; whnf, ?_⟩; conv => rhs; whnf)
 | exact trivial)
        all_goals first
          | exact i64_ok (by omega)
          | exact i64_ok (by simp only [Int.toNat_natCast, Nat.zero_add, Nat.reduceAdd]; omega)
          | rfl
    · have f0 : decide ((i : Int) < (a.length : Nat)) = false := decide_eq_false (by omega)
      have g0 := gf_of f0
      repeat' (first
 | refine aw_region ?_
 | refine awo_nil ?_
 | refine k_seq ?_
 | (apply aw_1
    conv => whnf
    refine ⟨?_, trivial⟩)
 | (apply s_pick_f rfl rfl
    · conv => lhs; whnf
    · conv => lhs; whnf
    · first | exact bF1 (by assumption) | exact bF2 (by assumption))
 | (apply s_1
    conv => whnf; arg 1; arg 4; arg 3; whnf
    refine ⟨?_, ?_⟩)
 | (apply s_skipU rfl
    · conv => lhs; whnf
    · conv => lhs; whnf
    · first | rfl | assumption)
 | refine k_seq_exit ?_
 | refine k_block_hit rfl ?_
 | refine k_loop_exit ?_
 | exact trivial)
      all_goals first
        | exact i64_ok (by omega)
        | exact i64_ok (by simp only [Int.toNat_natCast, Nat.zero_add, Nat.reduceAdd]; omega)
        | skip
      generalize hQ : lgF b b.length 0 n = Q
      refine aw_loop (fun j st => ∃ i z, i + j = b.length ∧ lgF b j i z = Q ∧ 0 ≤ z ∧ z ≤ n + 2 * ((bA b i : Nat) : Int) ∧ Sub (cx EN Tryz.prog s w he) st (HLf a b z i)) b.length ⟨0, n, by omega, hQ, by omega, by simp [bA, sumN], Sub.live ⟨rfl, rfl, rfl, trivial⟩ ⟨rfl, trivial⟩⟩ ?_
      clear hQ
      rintro j2 st2 ⟨q, z, hqj, hQ, hz0, hz1, hs3⟩
      refine aw_sub hs3 ?_
      clear hs3
      have hbq := bA_le (l := b) (i := q) (by omega)
      by_cases hq : q < b.length
      rotate_left 1
      · have f2 : decide ((q : Int) < (b.length : Nat)) = false := decide_eq_false (by omega)
        have g2 := gf_of f2
        obtain rfl : j2 = 0 := by omega
        have e : z = Q := hQ
        subst e
        repeat' (first
 | refine aw_region ?_
 | refine awo_nil ?_
 | refine k_seq ?_
 | (apply aw_1
    conv => whnf
    refine ⟨?_, trivial⟩)
 | (apply s_pick_f rfl rfl
    · conv => lhs; whnf
    · conv => lhs; whnf
    · first | exact bF1 (by assumption) | exact bF2 (by assumption))
 | (apply s_1
    conv => whnf; arg 1; arg 4; arg 3; whnf
    refine ⟨?_, ?_⟩)
 | (apply s_skipU rfl
    · conv => lhs; whnf
    · conv => lhs; whnf
    · first | rfl | assumption)
 | refine k_seq_exit ?_
 | refine k_block_hit rfl ?_
 | refine k_loop_exit ?_
 | refine k_end_ret ?_
 | (refine ⟨_, by conv => lhs; whnf; arg 2; whnf, ?_⟩; conv => rhs; whnf)
 | exact trivial)
        all_goals first
          | exact i64_ok (by omega)
          | exact i64_ok (by simp only [Int.toNat_natCast, Nat.zero_add, Nat.reduceAdd]; omega)
          | rfl
      have f2 : decide ((q : Int) < (b.length : Nat)) = true := decide_eq_true (by omega)
      have g2 := gt_of f2
      obtain ⟨j2, rfl⟩ : ∃ q, j2 = q + 1 := ⟨j2 - 1, by omega⟩
      by_cases hm : z ≤ 600
      rotate_left 1
      · have f1 : decide (z ≤ 600) = false := decide_eq_false hm
        have e : z = Q := by rw [← hQ]; unfold lgF; rw [if_neg hm]
        subst e
        repeat' (first
 | (apply aw_cond_kf
    · conv => lhs; whnf
    · assumption)
 | refine aw_region ?_
 | refine awo_nil ?_
 | refine k_seq ?_
 | (apply aw_1
    conv => whnf
    refine ⟨?_, trivial⟩)
 | (apply s_pick_t rfl rfl
    · conv => lhs; whnf
    · conv => lhs; whnf
    · first | exact bT1 (by assumption) | exact bT2 (by assumption))
 | (apply s_1
    conv => whnf; arg 1; arg 4; arg 3; whnf
    refine ⟨?_, ?_⟩)
 | (apply s_wanted_val rfl
    · conv => lhs; whnf
    · conv => lhs; whnf
    · first | rfl | assumption
    · conv => lhs; whnf; arg 2; whnf)
 | refine k_seq_exit ?_
 | refine k_block_hit rfl ?_
 | refine k_loop_exit ?_
 | refine k_end_ret ?_
 | (refine ⟨_, by conv => lhs; whnf; arg 2; whnf, ?_⟩; conv => rhs; whnf)
 | exact trivial)
        all_goals first
          | exact i64_ok (by omega)
          | exact i64_ok (by simp only [Int.toNat_natCast, Nat.zero_add, Nat.reduceAdd]; omega)
          | rfl
      have f1 : decide (z ≤ 600) = true := decide_eq_true hm
      unfold lgF at hQ
      rw [if_pos hm] at hQ
      have hget := bulkL_get hq
      have hpt := frag_parts (gD b q)
      have hbs := bA_succ b q
      have hwr := wg_range (bulkL ((gD b q).f 2).l + 1) ((gD b q).f 2).l 600
      have hW := weigh_ac (bulkL ((gD b q).f 2).l + 1) ((gD b q).f 2).l 600 (Nat.lt_succ_self _) (by omega) (by omega) (by omega)
      repeat' (first
 | (apply aw_cond_kt
    · conv => lhs; whnf
    · assumption)
 | refine aw_region ?_
 | refine awo_nil ?_
 | refine k_seq ?_
 | refine k_block ?_
 | (apply aw_1
    conv => whnf
    refine ⟨?_, trivial⟩)
 | (apply s_pick_t rfl rfl
    · conv => lhs; whnf
    · conv => lhs; whnf
    · first | exact bT1 (by assumption) | exact bT2 (by assumption))
 | (apply s_1
    conv => whnf; arg 1; arg 4; arg 3; whnf
    refine ⟨?_, ?_⟩)
 | (apply s_call rfl
    · conv => lhs; whnf
    · conv => lhs; whnf
    · first | exact hW)
 | (apply s_wanted_val rfl
    · conv => lhs; whnf
    · conv => lhs; whnf
    · first | rfl | assumption
    · conv => lhs; whnf; arg 2; whnf)
 | exact trivial)
      all_goals first
        | exact i64_ok (by omega)
        | exact i64_ok (by simp only [Int.toNat_natCast, Nat.zero_add, Nat.reduceAdd]; omega)
        | exact at_in hq
        | exact k_loop_next (Nat.lt_succ_self j2) ⟨q + 1, _, by omega, hQ, by omega, by omega, Sub.live ⟨rfl, rfl, rfl, trivial⟩ ⟨rfl, trivial⟩⟩
end Go.Proofs.YthjiclhfhjdjpaaGreatDoor
namespace Go.Proofs.YthjiclhfhjdjpaaGreatDoor
open Go.RowKit
set_option linter.unusedSectionVars false
attribute [local irreducible] wpList Calls Code.wp AW AWo OpOk seqK blockK scopeK loopK endK AC absLex Yld Sub
attribute [local irreducible] ACB ACX absLexG YldG absLexH
noncomputable def WV (d : D) : V := .agg (cellsV Tryz.prog 12 84 d)
noncomputable def WA (d : D) : V := .agg (cellsV Tryz.prog 12 86 d)
noncomputable def WS (d : D) : V := .agg (cellsV Tryz.prog 12 76 d)
noncomputable def WO (d : D) : V := .agg (cellsV Tryz.prog 12 57 d)
set_option maxHeartbeats 8000000 in
set_option maxRecDepth 100000 in
theorem elemA9 : elemOk Tryz.prog 69 = some (86, 96) := by kernel_rfl
set_option maxHeartbeats 8000000 in
set_option maxRecDepth 100000 in
theorem elemS9 : elemOk Tryz.prog 55 = some (76, 128) := by kernel_rfl
set_option maxHeartbeats 8000000 in
set_option maxRecDepth 100000 in
theorem elemO9 : elemOk Tryz.prog 38 = some (57, 72) := by kernel_rfl
set_option maxHeartbeats 8000000 in
set_option maxRecDepth 100000 in
theorem insVar_ac (l : List D) (n : Int) (hn : n ≤ 1) (v : Value) : AC EN Tryz.prog 265 [.sl 88 l, .c (.int .i64 0), .c (.int .i64 n), .c v] (.tup []) := by
  have f0 : decide ((0 : Int) + 1 < n) = false := decide_eq_false (by omega)
  refine ac_enter 53 Tryz.func265 rfl rfl rfl rfl ?_
  intro s w he
  repeat' (first
 | refine aw_region ?_
 | refine awo_nil ?_
 | refine k_seq ?_
 | (apply aw_1
    conv => whnf
    refine ⟨?_, trivial⟩)
 | (apply s_1
    conv => whnf; arg 1; arg 4; arg 3; whnf
    refine ⟨?_, ?_⟩)
 | exact trivial)
  · refine aw_loop (fun _ st => Sub (cx EN Tryz.prog s w he) st (stS 53 [(2, .c (.int .i64 n)), (8, .c (.int .i64 (0 + 1)))] [])) 0 (Sub.live ⟨rfl, rfl, trivial⟩ trivial) ?_
    rintro j st hs
    refine aw_sub hs ?_
    repeat' (first
 | (apply aw_cond_kf
    · conv => lhs; whnf
    · assumption)
 | refine aw_region ?_
 | refine awo_nil ?_
 | refine k_seq ?_
 | (apply aw_1
    conv => whnf
    refine ⟨?_, trivial⟩)
 | (apply s_1
    conv => whnf; arg 1; arg 4; arg 3; whnf
    refine ⟨?_, ?_⟩)
 | refine k_seq_exit ?_
 | refine k_block_hit rfl ?_
 | refine k_loop_exit ?_
 | refine k_end ?_
 | exact trivial)
    all_goals rfl
  · exact i64_ok (by omega)
set_option maxHeartbeats 8000000 in
set_option maxRecDepth 100000 in
theorem stableVar_ac (l : List D) (n : Int) (hn : n ≤ 1) (v : Value) : AC EN Tryz.prog 191 [.sl 88 l, .c (.int .i64 n), .c v] (.tup []) := by
  have f0 : decide ((20 : Int) ≤ n) = false := decide_eq_false (by omega)
  have f1 : decide ((20 : Int) < n) = false := decide_eq_false (by omega)
  have hi := insVar_ac l n hn v
  refine ac_enter 63 Tryz.func191 rfl rfl rfl rfl ?_
  intro s w he
  repeat' (first
 | refine aw_region ?_
 | refine awo_nil ?_
 | refine k_seq ?_
 | (apply aw_1
    conv => whnf
    refine ⟨?_, trivial⟩)
 | (apply s_1
    conv => whnf; arg 1; arg 4; arg 3; whnf
    refine ⟨?_, ?_⟩)
 | exact trivial)
  refine aw_loop (fun _ st => Sub (cx EN Tryz.prog s w he) st (stS 63 [(0, .sl 88 l), (1, .c (.int .i64 n)), (2, .c v), (6, .c (.int .i64 20)), (7, .c (.int .i64 0)), (8, .c (.int .i64 20))] [])) 0 (Sub.live ⟨rfl, rfl, rfl, rfl, rfl, rfl, trivial⟩ trivial) ?_
  rintro j st hs
  refine aw_sub hs ?_
  clear hs
  repeat' (first
 | (apply aw_cond_kf
    · conv => lhs; whnf
    · assumption)
 | refine aw_region ?_
 | refine awo_nil ?_
 | refine k_seq ?_
 | (apply aw_1
    conv => whnf
    refine ⟨?_, trivial⟩)
 | (apply s_1
    conv => whnf; arg 1; arg 4; arg 3; whnf
    refine ⟨?_, ?_⟩)
 | (apply s_call rfl
    · conv => lhs; whnf
    · conv => lhs; whnf
    · first | exact hi)
 | refine k_seq_exit ?_
 | refine k_block_hit rfl ?_
 | refine k_loop_exit ?_
 | exact trivial)
  refine aw_loop (fun _ st => Sub (cx EN Tryz.prog s w he) st (stS 63 [(1, .c (.int .i64 n)), (6, .c (.int .i64 20))] [])) 0 (Sub.live ⟨rfl, rfl, trivial⟩ trivial) ?_
  rintro j2 st2 hs
  refine aw_sub hs ?_
  repeat' (first
 | (apply aw_cond_kf
    · conv => lhs; whnf
    · assumption)
 | refine aw_region ?_
 | refine awo_nil ?_
 | refine k_seq ?_
 | (apply aw_1
    conv => whnf
    refine ⟨?_, trivial⟩)
 | (apply s_1
    conv => whnf; arg 1; arg 4; arg 3; whnf
    refine ⟨?_, ?_⟩)
 | refine k_seq_exit ?_
 | refine k_block_hit rfl ?_
 | refine k_loop_exit ?_
 | refine k_end ?_
 | exact trivial)
  all_goals rfl
set_option maxHeartbeats 8000000 in
set_option maxRecDepth 100000 in
theorem sortVar_ac (l : List D) (hn : l.length ≤ 1) (v : Value) : AC EN Tryz.prog 108 [.sl 88 l, .c v] (.tup []) := by
  have hi := stableVar_ac l (l.length : Int) (by omega) v
  refine ac_enter 9 Tryz.func108 rfl rfl rfl rfl ?_
  intro s w he
  repeat' (first
 | refine aw_region ?_
 | refine awo_nil ?_
 | (apply s_1
    conv => whnf; arg 1; arg 4; arg 3; whnf
    refine ⟨?_, ?_⟩)
 | (apply s_call rfl
    · conv => lhs; whnf
    · conv => lhs; whnf
    · first | exact hi)
 | refine k_end ?_
 | exact trivial)
  all_goals rfl
set_option maxHeartbeats 8000000 in
set_option maxRecDepth 100000 in
theorem insDir_ac (l : List D) (n : Int) (hn : n ≤ 1) (v : Value) : AC EN Tryz.prog 316 [.sl 150 l, .c (.int .i64 0), .c (.int .i64 n), .c v] (.tup []) := by
  have f0 : decide ((0 : Int) + 1 < n) = false := decide_eq_false (by omega)
  refine ac_enter 53 Tryz.func316 rfl rfl rfl rfl ?_
  intro s w he
  repeat' (first
 | refine aw_region ?_
 | refine awo_nil ?_
 | refine k_seq ?_
 | (apply aw_1
    conv => whnf
    refine ⟨?_, trivial⟩)
 | (apply s_1
    conv => whnf; arg 1; arg 4; arg 3; whnf
    refine ⟨?_, ?_⟩)
 | exact trivial)
  · refine aw_loop (fun _ st => Sub (cx EN Tryz.prog s w he) st (stS 53 [(2, .c (.int .i64 n)), (8, .c (.int .i64 (0 + 1)))] [])) 0 (Sub.live ⟨rfl, rfl, trivial⟩ trivial) ?_
    rintro j st hs
    refine aw_sub hs ?_
    repeat' (first
 | (apply aw_cond_kf
    · conv => lhs; whnf
    · assumption)
 | refine aw_region ?_
 | refine awo_nil ?_
 | refine k_seq ?_
 | (apply aw_1
    conv => whnf
    refine ⟨?_, trivial⟩)
 | (apply s_1
    conv => whnf; arg 1; arg 4; arg 3; whnf
    refine ⟨?_, ?_⟩)
 | refine k_seq_exit ?_
 | refine k_block_hit rfl ?_
 | refine k_loop_exit ?_
 | refine k_end ?_
 | exact trivial)
    all_goals rfl
  · exact i64_ok (by omega)
set_option maxHeartbeats 8000000 in
set_option maxRecDepth 100000 in
theorem stableDir_ac (l : List D) (n : Int) (hn : n ≤ 1) (v : Value) : AC EN Tryz.prog 260 [.sl 150 l, .c (.int .i64 n), .c v] (.tup []) := by
  have f0 : decide ((20 : Int) ≤ n) = false := decide_eq_false (by omega)
  have f1 : decide ((20 : Int) < n) = false := decide_eq_false (by omega)
  have hi := insDir_ac l n hn v
  refine ac_enter 63 Tryz.func260 rfl rfl rfl rfl ?_
  intro s w he
  repeat' (first
 | refine aw_region ?_
 | refine awo_nil ?_
 | refine k_seq ?_
 | (apply aw_1
    conv => whnf
    refine ⟨?_, trivial⟩)
 | (apply s_1
    conv => whnf; arg 1; arg 4; arg 3; whnf
    refine ⟨?_, ?_⟩)
 | exact trivial)
  refine aw_loop (fun _ st => Sub (cx EN Tryz.prog s w he) st (stS 63 [(0, .sl 150 l), (1, .c (.int .i64 n)), (2, .c v), (6, .c (.int .i64 20)), (7, .c (.int .i64 0)), (8, .c (.int .i64 20))] [])) 0 (Sub.live ⟨rfl, rfl, rfl, rfl, rfl, rfl, trivial⟩ trivial) ?_
  rintro j st hs
  refine aw_sub hs ?_
  clear hs
  repeat' (first
 | (apply aw_cond_kf
    · conv => lhs; whnf
    · assumption)
 | refine aw_region ?_
 | refine awo_nil ?_
 | refine k_seq ?_
 | (apply aw_1
    conv => whnf
    refine ⟨?_, trivial⟩)
 | (apply s_1
    conv => whnf; arg 1; arg 4; arg 3; whnf
    refine ⟨?_, ?_⟩)
 | (apply s_call rfl
    · conv => lhs; whnf
    · conv => lhs; whnf
    · first | exact hi)
 | refine k_seq_exit ?_
 | refine k_block_hit rfl ?_
 | refine k_loop_exit ?_
 | exact trivial)
  refine aw_loop (fun _ st => Sub (cx EN Tryz.prog s w he) st (stS 63 [(1, .c (.int .i64 n)), (6, .c (.int .i64 20))] [])) 0 (Sub.live ⟨rfl, rfl, trivial⟩ trivial) ?_
  rintro j2 st2 hs
  refine aw_sub hs ?_
  repeat' (first
 | (apply aw_cond_kf
    · conv => lhs; whnf
    · assumption)
 | refine aw_region ?_
 | refine awo_nil ?_
 | refine k_seq ?_
 | (apply aw_1
    conv => whnf
    refine ⟨?_, trivial⟩)
 | (apply s_1
    conv => whnf; arg 1; arg 4; arg 3; whnf
    refine ⟨?_, ?_⟩)
 | refine k_seq_exit ?_
 | refine k_block_hit rfl ?_
 | refine k_loop_exit ?_
 | refine k_end ?_
 | exact trivial)
  all_goals rfl
set_option maxHeartbeats 8000000 in
set_option maxRecDepth 100000 in
theorem sortDir_ac (l : List D) (hn : l.length ≤ 1) (v : Value) : AC EN Tryz.prog 183 [.sl 150 l, .c v] (.tup []) := by
  have hi := stableDir_ac l (l.length : Int) (by omega) v
  refine ac_enter 9 Tryz.func183 rfl rfl rfl rfl ?_
  intro s w he
  repeat' (first
 | refine aw_region ?_
 | refine awo_nil ?_
 | (apply s_1
    conv => whnf; arg 1; arg 4; arg 3; whnf
    refine ⟨?_, ?_⟩)
 | (apply s_call rfl
    · conv => lhs; whnf
    · conv => lhs; whnf
    · first | exact hi)
 | refine k_end ?_
 | exact trivial)
  all_goals rfl
set_option maxHeartbeats 8000000 in
set_option maxRecDepth 100000 in
theorem insSel_ac (l : List D) (n : Int) (hn : n ≤ 1) (v : Value) : AC EN Tryz.prog 318 [.sl 76 l, .c (.int .i64 0), .c (.int .i64 n), .c v] (.tup []) := by
  have f0 : decide ((0 : Int) + 1 < n) = false := decide_eq_false (by omega)
  refine ac_enter 53 Tryz.func318 rfl rfl rfl rfl ?_
  intro s w he
  repeat' (first
 | refine aw_region ?_
 | refine awo_nil ?_
 | refine k_seq ?_
 | (apply aw_1
    conv => whnf
    refine ⟨?_, trivial⟩)
 | (apply s_1
    conv => whnf; arg 1; arg 4; arg 3; whnf
    refine ⟨?_, ?_⟩)
 | exact trivial)
  · refine aw_loop (fun _ st => Sub (cx EN Tryz.prog s w he) st (stS 53 [(2, .c (.int .i64 n)), (8, .c (.int .i64 (0 + 1)))] [])) 0 (Sub.live ⟨rfl, rfl, trivial⟩ trivial) ?_
    rintro j st hs
    refine aw_sub hs ?_
    repeat' (first
 | (apply aw_cond_kf
    · conv => lhs; whnf
    · assumption)
 | refine aw_region ?_
 | refine awo_nil ?_
 | refine k_seq ?_
 | (apply aw_1
    conv => whnf
    refine ⟨?_, trivial⟩)
 | (apply s_1
    conv => whnf; arg 1; arg 4; arg 3; whnf
    refine ⟨?_, ?_⟩)
 | refine k_seq_exit ?_
 | refine k_block_hit rfl ?_
 | refine k_loop_exit ?_
 | refine k_end ?_
 | exact trivial)
    all_goals rfl
  · exact i64_ok (by omega)
set_option maxHeartbeats 8000000 in
set_option maxRecDepth 100000 in
theorem stableSel_ac (l : List D) (n : Int) (hn : n ≤ 1) (v : Value) : AC EN Tryz.prog 261 [.sl 76 l, .c (.int .i64 n), .c v] (.tup []) := by
  have f0 : decide ((20 : Int) ≤ n) = false := decide_eq_false (by omega)
  have f1 : decide ((20 : Int) < n) = false := decide_eq_false (by omega)
  have hi := insSel_ac l n hn v
  refine ac_enter 63 Tryz.func261 rfl rfl rfl rfl ?_
  intro s w he
  repeat' (first
 | refine aw_region ?_
 | refine awo_nil ?_
 | refine k_seq ?_
 | (apply aw_1
    conv => whnf
    refine ⟨?_, trivial⟩)
 | (apply s_1
    conv => whnf; arg 1; arg 4; arg 3; whnf
    refine ⟨?_, ?_⟩)
 | exact trivial)
  refine aw_loop (fun _ st => Sub (cx EN Tryz.prog s w he) st (stS 63 [(0, .sl 76 l), (1, .c (.int .i64 n)), (2, .c v), (6, .c (.int .i64 20)), (7, .c (.int .i64 0)), (8, .c (.int .i64 20))] [])) 0 (Sub.live ⟨rfl, rfl, rfl, rfl, rfl, rfl, trivial⟩ trivial) ?_
  rintro j st hs
  refine aw_sub hs ?_
  clear hs
  repeat' (first
 | (apply aw_cond_kf
    · conv => lhs; whnf
    · assumption)
 | refine aw_region ?_
 | refine awo_nil ?_
 | refine k_seq ?_
 | (apply aw_1
    conv => whnf
    refine ⟨?_, trivial⟩)
 | (apply s_1
    conv => whnf; arg 1; arg 4; arg 3; whnf
    refine ⟨?_, ?_⟩)
 | (apply s_call rfl
    · conv => lhs; whnf
    · conv => lhs; whnf
    · first | exact hi)
 | refine k_seq_exit ?_
 | refine k_block_hit rfl ?_
 | refine k_loop_exit ?_
 | exact trivial)
  refine aw_loop (fun _ st => Sub (cx EN Tryz.prog s w he) st (stS 63 [(1, .c (.int .i64 n)), (6, .c (.int .i64 20))] [])) 0 (Sub.live ⟨rfl, rfl, trivial⟩ trivial) ?_
  rintro j2 st2 hs
  refine aw_sub hs ?_
  repeat' (first
 | (apply aw_cond_kf
    · conv => lhs; whnf
    · assumption)
 | refine aw_region ?_
 | refine awo_nil ?_
 | refine k_seq ?_
 | (apply aw_1
    conv => whnf
    refine ⟨?_, trivial⟩)
 | (apply s_1
    conv => whnf; arg 1; arg 4; arg 3; whnf
    refine ⟨?_, ?_⟩)
 | refine k_seq_exit ?_
 | refine k_block_hit rfl ?_
 | refine k_loop_exit ?_
 | refine k_end ?_
 | exact trivial)
  all_goals rfl
set_option maxHeartbeats 8000000 in
set_option maxRecDepth 100000 in
theorem sortSel_ac (l : List D) (hn : l.length ≤ 1) (v : Value) : AC EN Tryz.prog 186 [.sl 76 l, .c v] (.tup []) := by
  have hi := stableSel_ac l (l.length : Int) (by omega) v
  refine ac_enter 9 Tryz.func186 rfl rfl rfl rfl ?_
  intro s w he
  repeat' (first
 | refine aw_region ?_
 | refine awo_nil ?_
 | (apply s_1
    conv => whnf; arg 1; arg 4; arg 3; whnf
    refine ⟨?_, ?_⟩)
 | (apply s_call rfl
    · conv => lhs; whnf
    · conv => lhs; whnf
    · first | exact hi)
 | refine k_end ?_
 | exact trivial)
  all_goals rfl
set_option maxHeartbeats 8000000 in
set_option maxRecDepth 100000 in
theorem insArg_ac (l : List D) (n : Int) (hn : n ≤ 1) (v : Value) : AC EN Tryz.prog 350 [.sl 86 l, .c (.int .i64 0), .c (.int .i64 n), .c v] (.tup []) := by
  have f0 : decide ((0 : Int) + 1 < n) = false := decide_eq_false (by omega)
  refine ac_enter 53 Tryz.func350 rfl rfl rfl rfl ?_
  intro s w he
  repeat' (first
 | refine aw_region ?_
 | refine awo_nil ?_
 | refine k_seq ?_
 | (apply aw_1
    conv => whnf
    refine ⟨?_, trivial⟩)
 | (apply s_1
    conv => whnf; arg 1; arg 4; arg 3; whnf
    refine ⟨?_, ?_⟩)
 | exact trivial)
  · refine aw_loop (fun _ st => Sub (cx EN Tryz.prog s w he) st (stS 53 [(2, .c (.int .i64 n)), (8, .c (.int .i64 (0 + 1)))] [])) 0 (Sub.live ⟨rfl, rfl, trivial⟩ trivial) ?_
    rintro j st hs
    refine aw_sub hs ?_
    repeat' (first
 | (apply aw_cond_kf
    · conv => lhs; whnf
    · assumption)
 | refine aw_region ?_
 | refine awo_nil ?_
 | refine k_seq ?_
 | (apply aw_1
    conv => whnf
    refine ⟨?_, trivial⟩)
 | (apply s_1
    conv => whnf; arg 1; arg 4; arg 3; whnf
    refine ⟨?_, ?_⟩)
 | refine k_seq_exit ?_
 | refine k_block_hit rfl ?_
 | refine k_loop_exit ?_
 | refine k_end ?_
 | exact trivial)
    all_goals rfl
  · exact i64_ok (by omega)
set_option maxHeartbeats 8000000 in
set_option maxRecDepth 100000 in
theorem stableArg_ac (l : List D) (n : Int) (hn : n ≤ 1) (v : Value) : AC EN Tryz.prog 315 [.sl 86 l, .c (.int .i64 n), .c v] (.tup []) := by
  have f0 : decide ((20 : Int) ≤ n) = false := decide_eq_false (by omega)
  have f1 : decide ((20 : Int) < n) = false := decide_eq_false (by omega)
  have hi := insArg_ac l n hn v
  refine ac_enter 63 Tryz.func315 rfl rfl rfl rfl ?_
  intro s w he
  repeat' (first
 | refine aw_region ?_
 | refine awo_nil ?_
 | refine k_seq ?_
 | (apply aw_1
    conv => whnf
    refine ⟨?_, trivial⟩)
 | (apply s_1
    conv => whnf; arg 1; arg 4; arg 3; whnf
    refine ⟨?_, ?_⟩)
 | exact trivial)
  refine aw_loop (fun _ st => Sub (cx EN Tryz.prog s w he) st (stS 63 [(0, .sl 86 l), (1, .c (.int .i64 n)), (2, .c v), (6, .c (.int .i64 20)), (7, .c (.int .i64 0)), (8, .c (.int .i64 20))] [])) 0 (Sub.live ⟨rfl, rfl, rfl, rfl, rfl, rfl, trivial⟩ trivial) ?_
  rintro j st hs
  refine aw_sub hs ?_
  clear hs
  repeat' (first
 | (apply aw_cond_kf
    · conv => lhs; whnf
    · assumption)
 | refine aw_region ?_
 | refine awo_nil ?_
 | refine k_seq ?_
 | (apply aw_1
    conv => whnf
    refine ⟨?_, trivial⟩)
 | (apply s_1
    conv => whnf; arg 1; arg 4; arg 3; whnf
    refine ⟨?_, ?_⟩)
 | (apply s_call rfl
    · conv => lhs; whnf
    · conv => lhs; whnf
    · first | exact hi)
 | refine k_seq_exit ?_
 | refine k_block_hit rfl ?_
 | refine k_loop_exit ?_
 | exact trivial)
  refine aw_loop (fun _ st => Sub (cx EN Tryz.prog s w he) st (stS 63 [(1, .c (.int .i64 n)), (6, .c (.int .i64 20))] [])) 0 (Sub.live ⟨rfl, rfl, trivial⟩ trivial) ?_
  rintro j2 st2 hs
  refine aw_sub hs ?_
  repeat' (first
 | (apply aw_cond_kf
    · conv => lhs; whnf
    · assumption)
 | refine aw_region ?_
 | refine awo_nil ?_
 | refine k_seq ?_
 | (apply aw_1
    conv => whnf
    refine ⟨?_, trivial⟩)
 | (apply s_1
    conv => whnf; arg 1; arg 4; arg 3; whnf
    refine ⟨?_, ?_⟩)
 | refine k_seq_exit ?_
 | refine k_block_hit rfl ?_
 | refine k_loop_exit ?_
 | refine k_end ?_
 | exact trivial)
  all_goals rfl
set_option maxHeartbeats 8000000 in
set_option maxRecDepth 100000 in
theorem sortArg_ac (l : List D) (hn : l.length ≤ 1) (v : Value) : AC EN Tryz.prog 258 [.sl 86 l, .c v] (.tup []) := by
  have hi := stableArg_ac l (l.length : Int) (by omega) v
  refine ac_enter 9 Tryz.func258 rfl rfl rfl rfl ?_
  intro s w he
  repeat' (first
 | refine aw_region ?_
 | refine awo_nil ?_
 | (apply s_1
    conv => whnf; arg 1; arg 4; arg 3; whnf
    refine ⟨?_, ?_⟩)
 | (apply s_call rfl
    · conv => lhs; whnf
    · conv => lhs; whnf
    · first | exact hi)
 | refine k_end ?_
 | exact trivial)
  all_goals rfl
set_option maxHeartbeats 8000000 in
set_option maxRecDepth 100000 in
theorem insSelN_ac (n : Int) (hn : n ≤ 1) (v : Value) : AC EN Tryz.prog 318 [.c (.slice none 0 0), .c (.int .i64 0), .c (.int .i64 n), .c v] (.tup []) := by
  have f0 : decide ((0 : Int) + 1 < n) = false := decide_eq_false (by omega)
  refine ac_enter 53 Tryz.func318 rfl rfl rfl rfl ?_
  intro s w he
  repeat' (first
 | refine aw_region ?_
 | refine awo_nil ?_
 | refine k_seq ?_
 | (apply aw_1
    conv => whnf
    refine ⟨?_, trivial⟩)
 | (apply s_1
    conv => whnf; arg 1; arg 4; arg 3; whnf
    refine ⟨?_, ?_⟩)
 | exact trivial)
  · refine aw_loop (fun _ st => Sub (cx EN Tryz.prog s w he) st (stS 53 [(2, .c (.int .i64 n)), (8, .c (.int .i64 (0 + 1)))] [])) 0 (Sub.live ⟨rfl, rfl, trivial⟩ trivial) ?_
    rintro j st hs
    refine aw_sub hs ?_
    repeat' (first
 | (apply aw_cond_kf
    · conv => lhs; whnf
    · assumption)
 | refine aw_region ?_
 | refine awo_nil ?_
 | refine k_seq ?_
 | (apply aw_1
    conv => whnf
    refine ⟨?_, trivial⟩)
 | (apply s_1
    conv => whnf; arg 1; arg 4; arg 3; whnf
    refine ⟨?_, ?_⟩)
 | refine k_seq_exit ?_
 | refine k_block_hit rfl ?_
 | refine k_loop_exit ?_
 | refine k_end ?_
 | exact trivial)
    all_goals rfl
  · exact i64_ok (by omega)
set_option maxHeartbeats 8000000 in
set_option maxRecDepth 100000 in
theorem stableSelN_ac (n : Int) (hn : n ≤ 1) (v : Value) : AC EN Tryz.prog 261 [.c (.slice none 0 0), .c (.int .i64 n), .c v] (.tup []) := by
  have f0 : decide ((20 : Int) ≤ n) = false := decide_eq_false (by omega)
  have f1 : decide ((20 : Int) < n) = false := decide_eq_false (by omega)
  have hi := insSelN_ac n hn v
  refine ac_enter 63 Tryz.func261 rfl rfl rfl rfl ?_
  intro s w he
  repeat' (first
 | refine aw_region ?_
 | refine awo_nil ?_
 | refine k_seq ?_
 | (apply aw_1
    conv => whnf
    refine ⟨?_, trivial⟩)
 | (apply s_1
    conv => whnf; arg 1; arg 4; arg 3; whnf
    refine ⟨?_, ?_⟩)
 | exact trivial)
  refine aw_loop (fun _ st => Sub (cx EN Tryz.prog s w he) st (stS 63 [(0, .c (.slice none 0 0)), (1, .c (.int .i64 n)), (2, .c v), (6, .c (.int .i64 20)), (7, .c (.int .i64 0)), (8, .c (.int .i64 20))] [])) 0 (Sub.live ⟨rfl, rfl, rfl, rfl, rfl, rfl, trivial⟩ trivial) ?_
  rintro j st hs
  refine aw_sub hs ?_
  clear hs
  repeat' (first
 | (apply aw_cond_kf
    · conv => lhs; whnf
    · assumption)
 | refine aw_region ?_
 | refine awo_nil ?_
 | refine k_seq ?_
 | (apply aw_1
    conv => whnf
    refine ⟨?_, trivial⟩)
 | (apply s_1
    conv => whnf; arg 1; arg 4; arg 3; whnf
    refine ⟨?_, ?_⟩)
 | (apply s_call rfl
    · conv => lhs; whnf
    · conv => lhs; whnf
    · first | exact hi)
 | refine k_seq_exit ?_
 | refine k_block_hit rfl ?_
 | refine k_loop_exit ?_
 | exact trivial)
  refine aw_loop (fun _ st => Sub (cx EN Tryz.prog s w he) st (stS 63 [(1, .c (.int .i64 n)), (6, .c (.int .i64 20))] [])) 0 (Sub.live ⟨rfl, rfl, trivial⟩ trivial) ?_
  rintro j2 st2 hs
  refine aw_sub hs ?_
  repeat' (first
 | (apply aw_cond_kf
    · conv => lhs; whnf
    · assumption)
 | refine aw_region ?_
 | refine awo_nil ?_
 | refine k_seq ?_
 | (apply aw_1
    conv => whnf
    refine ⟨?_, trivial⟩)
 | (apply s_1
    conv => whnf; arg 1; arg 4; arg 3; whnf
    refine ⟨?_, ?_⟩)
 | refine k_seq_exit ?_
 | refine k_block_hit rfl ?_
 | refine k_loop_exit ?_
 | refine k_end ?_
 | exact trivial)
  all_goals rfl
set_option maxHeartbeats 8000000 in
set_option maxRecDepth 100000 in
theorem sortSelN_ac (v : Value) : AC EN Tryz.prog 186 [.c (.slice none 0 0), .c v] (.tup []) := by
  have hi := stableSelN_ac 0 (by decide) v
  refine ac_enter 9 Tryz.func186 rfl rfl rfl rfl ?_
  intro s w he
  repeat' (first
 | refine aw_region ?_
 | refine awo_nil ?_
 | (apply s_1
    conv => whnf; arg 1; arg 4; arg 3; whnf
    refine ⟨?_, ?_⟩)
 | (apply s_call rfl
    · conv => lhs; whnf
    · conv => lhs; whnf
    · first | exact hi)
 | refine k_end ?_
 | exact trivial)
  all_goals first
    | rfl
    | exact Nat.zero_le _
end Go.Proofs.YthjiclhfhjdjpaaGreatDoor
namespace Go.Proofs.YthjiclhfhjdjpaaGreatDoor
open Go.RowKit
attribute [local irreducible] wpList Calls Code.wp
section
variable {X : Cx} {nn : Nat} {st : Vst nn} {ops : Array Oper} {o : Oper} {l : List Oper} {Q : Vst nn → Prop} {d : Option Tmp} {k : Nat} {fr rd wr : Nat → List Nat}
theorem h_call {f : FuncId} {args : List V} {r : V} (hg : o.guard = none) (hd : o.dst = d) (h : act1 X.P st.rs (ev st) o.op = .call f args) (hc : AC X.e X.P f (outL args) r) (hf : nfB (fr k) r [] = true) (hK : absLexH X ops fr rd wr Q (k + 1) l (st.put d r)) : absLexH X ops fr rd wr Q k (o :: l) st :=
  ⟨r, [], .old (.inl ⟨by simp [gw, hg], .call h hc⟩) hf, by rw [hd]; exact hK⟩
end
end Go.Proofs.YthjiclhfhjdjpaaGreatDoor
