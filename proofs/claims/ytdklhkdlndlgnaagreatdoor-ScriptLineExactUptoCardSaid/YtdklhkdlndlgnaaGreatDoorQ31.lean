/- Parts of a proof, merged by a program (shake.py). -/
import Derived.Test.YtdklhkdlndlgnaaGreatDoorQ30
set_option linter.unusedVariables false
set_option linter.unusedSimpArgs false
namespace Go.Proofs.YtdklhkdlndlgnaaGreatDoor
open Go.RowKit
set_option linter.unusedSectionVars false
set_option maxHeartbeats 8000000 in
set_option maxRecDepth 100000 in
theorem at31 {i n : Nat} (h : i < n) : 0 ≤ (i : Int) ∧ (i : Int) < (n : Int) := ⟨Int.natCast_nonneg i, Int.ofNat_lt.2 h⟩
set_option maxHeartbeats 8000000 in
set_option maxRecDepth 100000 in
theorem cellsOf_str : Tryz.prog.cellsOf 9 = 1 := by kernel_rfl
set_option maxHeartbeats 8000000 in
set_option maxRecDepth 100000 in
theorem frm_keep {s : Sg} {w w' : World} (hfx : ∀ b o, s.F b o → (w.cell? ⟨b, o, none⟩).isSome) (hb : Below w.heap.size w w') : ∀ b o, s.F b o → w'.cell? ⟨b, o, none⟩ = w.cell? ⟨b, o, none⟩ := fun b o hF => by
  obtain ⟨x, hx⟩ := Option.isSome_iff_exists.1 (hfx b o hF)
  exact hb.cell (p := ⟨b, o, none⟩) (block_lt_of_cell hx)
set_option maxHeartbeats 8000000 in
set_option maxRecDepth 100000 in
theorem cloneS_ac (E0 : Ge) (l : List D) (hl : l.length * 16 ≤ 140737488355328) : AC E0 Tryz.prog 45 [.sl 9 l] (.sl 9 l) := by
  intro s w us hus hfx he
  obtain ⟨u, rfl, h⟩ := rel_one hus
  rw [rel] at h
  obtain ⟨k, A, c, rfl, h2, h3, h4, h5⟩ := h
  have hcl := cellsOf_str
  cases A with
  | none =>
    have h0 : l.length = 0 := by have := h4 rfl; omega
    refine (Tryz.slices_Clone_string_nil l.length c w).mono ?_
    rintro e w' ⟨rfl, rfl⟩
    refine ⟨_, s.F, rfl, Frm.refl _ _, Keeps.refl, hfx, fun _ _ _ h => h, ?_⟩
    rw [rel]
    exact ⟨1, none, 0, by rw [h0], by omega, by decide, fun _ => rfl, fun h => by omega⟩
  | some a =>
    by_cases h0 : l.length = 0
    · rw [h0]
      refine (Tryz.slices_Clone_string_zero a c w).mono ?_
      rintro e w' ⟨v', rfl, hown, hne, hb⟩
      obtain ⟨-, ⟨rfl, -⟩ | ⟨g, cap, cur, rfl, q1, q2, q3, q4, q5, q6⟩⟩ := hown
      · exact (hne rfl).elim
      · have hc := frm_keep hfx hb
        refine ⟨_, s.F, rfl, Frm.of_below hb, fun b o hF => ⟨hc b o hF, hF⟩, fun b o hF => by rw [hc b o hF]; exact hfx b o hF, fun _ _ _ h => h, ?_⟩
        rw [rel]
        exact ⟨1, _, cap, by rw [h0], by omega, q4, (fun h => by cases h), fun h => by omega⟩
    · obtain ⟨b, off, e1, hi⟩ := h5 (by omega) (by rw [hcl]; omega)
      cases e1
      have hst : ∀ i, i < l.length → w.cell? ⟨b, off + i, none⟩ = some (.string (gD l i).s) ∧ (gD l i).s.size ≤ maxLen := fun i hil => by
        obtain ⟨ys, y1, y2, y3⟩ := hi i hil
        cases k with
        | zero => exact y3.elim
        | succ k =>
          unfold RepF at y3
          rw [show Tryz.prog.underlying 9 = some .string by kernel_rfl] at y3
          obtain ⟨rfl, y4⟩ := y3
          have := (y2 0 _ rfl).1
          rw [hcl] at this
          exact ⟨by simpa using this, y4⟩
      refine (Tryz.slices_Clone_string b off l.length c (l.map (·.s)) w (by simp) hl (fun j hj => by
        rw [List.length_map] at hj
        rw [(hst j hj).1, List.getD_eq_getElem?_getD, List.getElem?_map, List.getElem?_eq_getElem hj, gD_get hj]
        rfl)).mono ?_
      rintro e w' ⟨v', rfl, hown, hne, hb⟩
      obtain ⟨-, ⟨rfl, -⟩ | ⟨g, cap, cur, rfl, q1, q2, q3, q4, q5, q6⟩⟩ := hown
      · exact (hne rfl).elim
      · have hc := frm_keep hfx hb
        have hcell : ∀ i, i < l.length → w'.cell? ⟨g, i, none⟩ = some (.string (gD l i).s) := fun i hil => by
          have hx : (cur.toList.take (l.length * 1))[i]? = some (.string (gD l i).s) := by
            rw [q6]
            simp [List.getElem?_map, List.getElem?_eq_getElem hil, gD_get hil, hil]
          rw [List.getElem?_take] at hx
          have hx : cur.toList[i]? = some (.string (gD l i).s) := by rw [if_pos (by omega)] at hx; exact hx
          have hx : cur[i]? = some (.string (gD l i).s) := by simpa using hx
          simp [World.cell?, q2, hx]
        refine ⟨_, fun b o => s.F b o ∨ (b = g ∧ o < l.length), rfl, Frm.of_below hb, fun b o hF => ⟨hc b o hF, .inl hF⟩, ?_, ?_, ?_⟩
        · rintro b o (hF | ⟨rfl, ho⟩)
          · rw [hc b o hF]; exact hfx b o hF
          · rw [hcell o ho]; rfl
        · rintro b o hbl (hF | ⟨rfl, ho⟩)
          · exact hF
          · omega
        · rw [rel]
          refine ⟨1, _, cap, rfl, by omega, q4, (fun h => by cases h), fun _ _ => ⟨g, 0, rfl, fun i hil => ⟨[.string (gD l i).s], hcl.symm, fun j u hj => ?_, ?_⟩⟩⟩
          · rw [hcl]
            obtain rfl : j = 0 := by
              cases j with
              | zero => rfl
              | succ j => simp at hj
            simp at hj
            subst hj
            refine ⟨?_, .inr ⟨rfl, by omega⟩⟩
            have := hcell i hil
            simpa using this
          · unfold RepF
            rw [show Tryz.prog.underlying 9 = some .string by kernel_rfl]
            exact ⟨rfl, (hst i hil).2⟩
attribute [local irreducible] wpList Calls Code.wp AW AWo OpOk seqK blockK scopeK loopK endK AC absLex Yld Sub
attribute [local irreducible] ACB ACX absLexG YldG absLexH
set_option maxHeartbeats 8000000 in
set_option maxRecDepth 100000 in
theorem elemValU : elemOk Tryz.prog 23 = some (26, 80) := by kernel_rfl
set_option maxHeartbeats 8000000 in
set_option maxRecDepth 100000 in
theorem elemStr5 : elemOk Tryz.prog 24 = some (9, 16) := by kernel_rfl
noncomputable def HCp (l : List D) (i : Nat) : Vst 19 := stS 19 [(3, .own 3 26 (l.take i)), (6, .sl 26 l), (7, .c (.int .i64 (l.length : Nat))), (8, .c (.int .i64 (i : Int)))] [(3, .tok 26 (l.take i).length)]
set_option maxHeartbeats 8000000 in
set_option maxRecDepth 100000 in
theorem copies_of (E0 : Ge) (l : List D) (hl : l.length ≤ 1759218604441) (hc : ∀ i, i < l.length → AC E0 Tryz.prog 28 [.agg (cellsV Tryz.prog 12 26 (gD l i))] (.agg (cellsV Tryz.prog 12 26 (gD l i)))) :
    AC E0 Tryz.prog 44 [.sl 26 l] (.sl 26 l) := by
  refine ac_enter 19 Tryz.func44 rfl rfl rfl rfl ?_
  intro s w he
  repeat' (first
    | refine aw_region ?_
    | refine awo_nil ?_
    | refine k_seq ?_
    | refine k_block ?_
    | refine k_scope ?_
    | (apply aw_1
       conv => whnf
       refine ⟨?_, trivial⟩)
    | (apply s_1
       conv => whnf; arg 1; arg 4; arg 3; whnf
       refine ⟨?_, ?_⟩)
    | (apply s_val rfl
       · conv => lhs; whnf
       · conv => lhs; whnf; arg 2; whnf)
    | (apply s_call rfl
       · conv => lhs; whnf
       · conv => lhs; whnf
       · first | fail)
    | (apply s_alloc rfl rfl rfl rfl
       · conv => lhs; whnf; arg 1; whnf
       · rfl)
    | (apply s_store rfl rfl rfl
       · conv => lhs; whnf
       · conv => lhs; whnf; arg 1; whnf
       · conv => lhs; whnf; arg 1; whnf
       · exact ⟨by kernel_rfl, by kernel_rfl⟩
       · rfl)
    | (apply s_app rfl rfl
       · conv => lhs; whnf
       · first | (conv => lhs; whnf; arg 1; whnf)
       · first | exact fun _ => rfl | (intro _; kernel_rfl)
       · conv => lhs; whnf
       · conv => lhs; whnf; arg 1; whnf
       · conv => lhs; whnf)
    | (apply s_app_nil rfl rfl rfl rfl
       · first | (conv => lhs; whnf; arg 1; whnf)
       · first | exact fun _ => rfl | (intro _; kernel_rfl)
       · conv => lhs; whnf
       · conv => lhs; whnf)
    | (apply s_lit0 rfl rfl
       · conv => lhs; whnf
       · first | (conv => lhs; whnf; arg 1; whnf))
    | (apply s_lit1 rfl rfl
       · conv => lhs; whnf
       · first | (conv => lhs; whnf; arg 1; whnf)
       · conv => lhs; whnf; arg 1; whnf
       · rfl
       · rfl)
    | (apply s_onlit rfl rfl
       · conv => lhs; whnf
       · first | (conv => lhs; whnf; arg 1; whnf)
       · first | exact fun _ => rfl | (intro _; kernel_rfl)
       · conv => lhs; whnf
       · conv => lhs; whnf)
    | (apply aw_cond_t
       · conv => lhs; whnf; arg 1; arg 1; whnf)
    | (apply aw_cond_f
       · conv => lhs; whnf; arg 1; arg 1; whnf)
    | (refine aw_cond (by conv => lhs; whnf) ?_ ?_ <;> intro hb)
    | refine aw_ret ?_
    | refine aw_exit ?_
    | refine k_seq_exit ?_
    | refine k_seq_ret ?_
    | refine k_block_ret ?_
    | refine k_block_hit rfl ?_
    | refine k_block_miss rfl ?_
    | refine k_scope_exit ?_
    | refine k_scope_ret ?_
    | refine k_loop_exit ?_
    | refine k_loop_ret ?_
    | refine k_end ?_
    | refine k_end_ret ?_
    | (refine ⟨_, by conv => lhs; whnf; arg 2; whnf, ?_⟩; conv => rhs; whnf)
    | exact trivial
    | intro hg)
  refine aw_sub (Sub.own (t := 3) (e := 26) rfl rfl) ?_
  refine aw_loop (fun j st => ∃ i, i + j = l.length ∧ Sub (cx E0 Tryz.prog s w he) st (HCp l i)) l.length ⟨0, by omega, Sub.live ⟨rfl, rfl, rfl, rfl, trivial⟩ ⟨rfl, trivial⟩⟩ ?_
  rintro j st ⟨i, hij, hs2⟩
  refine aw_sub hs2 ?_
  clear hs2
  by_cases hi : i < l.length
  · have f0 : decide ((i : Int) < (l.length : Nat)) = true := decide_eq_true (by omega)
    have h1 := hc i hi
    have htk : (l.take i).length = i := by rw [List.length_take]; omega
    repeat' (first
    | (apply s_lit [gD l i] rfl rfl
       · conv => lhs; whnf
       · first | exact elemValU | (conv => lhs; whnf; arg 1; whnf)
       · rfl
       · rfl
       · repeat' (first | exact trivial | apply And.intro | rfl))
    | (apply aw_cond_kt
       · conv => lhs; whnf
       · assumption)
    | (apply aw_cond_kf
       · conv => lhs; whnf
       · assumption)
    | refine k_cut_ret ?_
    | refine k_cut_exit ?_
    | refine k_cut ?_
    | refine aw_region ?_
    | refine awo_nil ?_
    | refine k_seq ?_
    | refine k_block ?_
    | refine k_scope ?_
    | (apply aw_1
       conv => whnf
       refine ⟨?_, trivial⟩)
    | (apply s_1
       conv => whnf; arg 1; arg 4; arg 3; whnf
       refine ⟨?_, ?_⟩)
    | (apply s_val rfl
       · conv => lhs; whnf
       · conv => lhs; whnf; arg 2; whnf)
    | (apply s_call rfl
       · conv => lhs; whnf
       · conv => lhs; whnf
       · first | exact h1)
    | (apply s_alloc rfl rfl rfl rfl
       · conv => lhs; whnf; arg 1; whnf
       · rfl)
    | (apply s_store rfl rfl rfl
       · conv => lhs; whnf
       · conv => lhs; whnf; arg 1; whnf
       · conv => lhs; whnf; arg 1; whnf
       · exact ⟨by kernel_rfl, by kernel_rfl⟩
       · rfl)
    | (apply s_app rfl rfl
       · conv => lhs; whnf
       · first | exact elemValU | (conv => lhs; whnf; arg 1; whnf)
       · first | exact fun _ => rfl | (intro _; kernel_rfl)
       · conv => lhs; whnf
       · conv => lhs; whnf; arg 1; whnf
       · conv => lhs; whnf)
    | (apply s_app_nil rfl rfl rfl rfl
       · first | exact elemValU | (conv => lhs; whnf; arg 1; whnf)
       · first | exact fun _ => rfl | (intro _; kernel_rfl)
       · conv => lhs; whnf
       · conv => lhs; whnf)
    | (apply s_lit0 rfl rfl
       · conv => lhs; whnf
       · first | exact elemValU | (conv => lhs; whnf; arg 1; whnf))
    | (apply s_lit1 rfl rfl
       · conv => lhs; whnf
       · first | exact elemValU | (conv => lhs; whnf; arg 1; whnf)
       · conv => lhs; whnf; arg 1; whnf
       · rfl
       · rfl)
    | (apply s_onlit rfl rfl
       · conv => lhs; whnf
       · first | exact elemValU | (conv => lhs; whnf; arg 1; whnf)
       · first | exact fun _ => rfl | (intro _; kernel_rfl)
       · conv => lhs; whnf
       · conv => lhs; whnf)
    | (apply aw_cond_t
       · conv => lhs; whnf; arg 1; arg 1; whnf)
    | (apply aw_cond_f
       · conv => lhs; whnf; arg 1; arg 1; whnf)
    | (refine aw_cond (by conv => lhs; whnf) ?_ ?_ <;> intro hb)
    | refine aw_ret ?_
    | refine aw_exit ?_
    | refine k_seq_exit ?_
    | refine k_seq_ret ?_
    | refine k_block_ret ?_
    | refine k_block_hit rfl ?_
    | refine k_block_miss rfl ?_
    | refine k_scope_exit ?_
    | refine k_scope_ret ?_
    | refine k_loop_exit ?_
    | refine k_loop_ret ?_
    | refine k_end ?_
    | refine k_end_ret ?_
    | (refine ⟨_, by conv => lhs; whnf; arg 2; whnf, ?_⟩; conv => rhs; whnf)
    | exact trivial
    | intro hg)
    all_goals first
      | exact i64_in2 (by omega)
      | exact at31 hi
      | (refine ⟨by simp, ?_, ?_⟩ <;> simp only [List.length_cons, List.length_nil, maxLen, htk] <;> omega)
      | skip
    refine k_loop_next (j' := j - 1) (by omega) ⟨i + 1, by omega, Sub.live ⟨?_, rfl, rfl, rfl, trivial⟩ ⟨?_, trivial⟩⟩
    · show V.own 3 _ (l.take i ++ [gD l i]) = V.own 3 _ (l.take (i + 1))
      rw [List.take_add_one, List.getElem?_eq_getElem hi, gD_get hi]; rfl
    · show some (Res.tok _ ((l.take i).length + 1)) = some (Res.tok _ (l.take (i + 1)).length)
      rw [htk, List.length_take, show min (i + 1) l.length = i + 1 by omega]
  · have f0 : decide ((i : Int) < (l.length : Nat)) = false := decide_eq_false (by omega)
    repeat' (first
    | (apply aw_cond_kt
       · conv => lhs; whnf
       · assumption)
    | (apply aw_cond_kf
       · conv => lhs; whnf
       · assumption)
    | refine k_cut_ret ?_
    | refine k_cut_exit ?_
    | refine k_cut ?_
    | refine aw_region ?_
    | refine awo_nil ?_
    | refine k_seq ?_
    | refine k_block ?_
    | refine k_scope ?_
    | (apply aw_1
       conv => whnf
       refine ⟨?_, trivial⟩)
    | (apply s_1
       conv => whnf; arg 1; arg 4; arg 3; whnf
       refine ⟨?_, ?_⟩)
    | (apply s_val rfl
       · conv => lhs; whnf
       · conv => lhs; whnf; arg 2; whnf)
    | (apply s_call rfl
       · conv => lhs; whnf
       · conv => lhs; whnf
       · first | fail)
    | (apply s_alloc rfl rfl rfl rfl
       · conv => lhs; whnf; arg 1; whnf
       · rfl)
    | (apply s_store rfl rfl rfl
       · conv => lhs; whnf
       · conv => lhs; whnf; arg 1; whnf
       · conv => lhs; whnf; arg 1; whnf
       · exact ⟨by kernel_rfl, by kernel_rfl⟩
       · rfl)
    | (apply s_app rfl rfl
       · conv => lhs; whnf
       · first | (conv => lhs; whnf; arg 1; whnf)
       · first | exact fun _ => rfl | (intro _; kernel_rfl)
       · conv => lhs; whnf
       · conv => lhs; whnf; arg 1; whnf
       · conv => lhs; whnf)
    | (apply s_app_nil rfl rfl rfl rfl
       · first | (conv => lhs; whnf; arg 1; whnf)
       · first | exact fun _ => rfl | (intro _; kernel_rfl)
       · conv => lhs; whnf
       · conv => lhs; whnf)
    | (apply s_lit0 rfl rfl
       · conv => lhs; whnf
       · first | (conv => lhs; whnf; arg 1; whnf))
    | (apply s_lit1 rfl rfl
       · conv => lhs; whnf
       · first | (conv => lhs; whnf; arg 1; whnf)
       · conv => lhs; whnf; arg 1; whnf
       · rfl
       · rfl)
    | (apply s_onlit rfl rfl
       · conv => lhs; whnf
       · first | (conv => lhs; whnf; arg 1; whnf)
       · first | exact fun _ => rfl | (intro _; kernel_rfl)
       · conv => lhs; whnf
       · conv => lhs; whnf)
    | (apply aw_cond_t
       · conv => lhs; whnf; arg 1; arg 1; whnf)
    | (apply aw_cond_f
       · conv => lhs; whnf; arg 1; arg 1; whnf)
    | (refine aw_cond (by conv => lhs; whnf) ?_ ?_ <;> intro hb)
    | refine aw_ret ?_
    | refine aw_exit ?_
    | refine k_seq_exit ?_
    | refine k_seq_ret ?_
    | refine k_block_ret ?_
    | refine k_block_hit rfl ?_
    | refine k_block_miss rfl ?_
    | refine k_scope_exit ?_
    | refine k_scope_ret ?_
    | refine k_loop_exit ?_
    | refine k_loop_ret ?_
    | refine k_end ?_
    | refine k_end_ret ?_
    | (refine ⟨_, by conv => lhs; whnf; arg 2; whnf, ?_⟩; conv => rhs; whnf)
    | exact trivial
    | intro hg)
    rw [List.take_of_length_le (by omega)]
set_option maxHeartbeats 8000000 in
set_option maxRecDepth 100000 in
theorem copy_ac (E0 : Ge) : ∀ (k : Nat) (d : D), CpV k d → AC E0 Tryz.prog 28 [.agg (cellsV Tryz.prog 12 26 d)] (.agg (cellsV Tryz.prog 12 26 d))
  | 0, _, h => h.elim
  | k + 1, d, h => by
    have h1 := copies_of E0 (d.f 3).l h.1 fun i hi => copy_ac E0 k _ (h.2.2 i hi)
    have h2 := cloneS_ac E0 (d.f 4).l (by have := h.2.1; omega)
    refine ac_enter 12 Tryz.func28 rfl rfl rfl rfl ?_
    intro s w he
    repeat' (first
    | refine aw_region ?_
    | refine awo_nil ?_
    | refine k_seq ?_
    | refine k_block ?_
    | refine k_scope ?_
    | (apply aw_1
       conv => whnf
       refine ⟨?_, trivial⟩)
    | (apply s_1
       conv => whnf; arg 1; arg 4; arg 3; whnf
       refine ⟨?_, ?_⟩)
    | (apply s_val rfl
       · conv => lhs; whnf
       · conv => lhs; whnf; arg 2; whnf)
    | (apply s_call rfl
       · conv => lhs; whnf
       · conv => lhs; whnf
       · first | exact h1 | exact h2)
    | (apply s_box rfl rfl rfl rfl
       · conv => lhs; whnf; arg 1; whnf
       · rfl)
    | (apply s_alloc rfl rfl rfl rfl
       · conv => lhs; whnf; arg 1; whnf
       · rfl)
    | (apply s_store rfl rfl rfl
       · conv => lhs; whnf
       · conv => lhs; whnf; arg 1; whnf
       · conv => lhs; whnf; arg 1; whnf
       · exact ⟨by kernel_rfl, by kernel_rfl⟩
       · rfl)
    | (apply aw_cond_t
       · conv => lhs; whnf; arg 1; arg 1; whnf)
    | (apply aw_cond_f
       · conv => lhs; whnf; arg 1; arg 1; whnf)
    | (refine aw_cond (by conv => lhs; whnf) ?_ ?_ <;> intro hb)
    | refine aw_ret ?_
    | refine aw_exit ?_
    | refine k_seq_exit ?_
    | refine k_seq_ret ?_
    | refine k_block_ret ?_
    | refine k_block_hit rfl ?_
    | refine k_block_miss rfl ?_
    | refine k_scope_exit ?_
    | refine k_scope_ret ?_
    | refine k_loop_exit ?_
    | refine k_loop_ret ?_
    | refine k_end ?_
    | refine k_end_ret ?_
    | (refine ⟨_, by conv => lhs; whnf; arg 2; whnf, ?_⟩; conv => rhs; whnf)
    | exact trivial
    | intro hg)
    rfl
noncomputable def HCf5 (l : List D) (i : Nat) : Vst 20 := stS 20 [(0, .sl 26 l), (3, .own 3 26 (l.take i)), (4, .c (.int .i64 (i : Int)))] [(3, .tok 26 (l.take i).length)]
set_option maxHeartbeats 8000000 in
set_option maxRecDepth 100000 in
theorem copiesF_of (E0 : Ge) (l : List D) (hl : l.length ≤ 1759218604441) (hc : ∀ i, i < l.length → AC E0 Tryz.prog 24 [.agg (cellsV Tryz.prog 12 26 (gD l i))] (.agg (cellsV Tryz.prog 12 26 (gD l i)))) :
    AC E0 Tryz.prog 12 [.sl 26 l] (.sl 26 l) := by
  refine ac_enter 20 Tryz.func12 rfl rfl rfl rfl ?_
  intro s w he
  repeat' (first
    | refine aw_region ?_
    | refine awo_nil ?_
    | refine k_seq ?_
    | refine k_block ?_
    | refine k_scope ?_
    | (apply aw_1
       conv => whnf
       refine ⟨?_, trivial⟩)
    | (apply s_1
       conv => whnf; arg 1; arg 4; arg 3; whnf
       refine ⟨?_, ?_⟩)
    | (apply s_val rfl
       · conv => lhs; whnf
       · conv => lhs; whnf; arg 2; whnf)
    | (apply s_call rfl
       · conv => lhs; whnf
       · conv => lhs; whnf
       · first | fail)
    | (apply s_app rfl rfl
       · conv => lhs; whnf
       · first | (conv => lhs; whnf; arg 1; whnf)
       · first | exact fun _ => rfl | (intro _; kernel_rfl)
       · conv => lhs; whnf
       · conv => lhs; whnf; arg 1; whnf
       · conv => lhs; whnf)
    | (apply s_app_nil rfl rfl rfl rfl
       · first | (conv => lhs; whnf; arg 1; whnf)
       · first | exact fun _ => rfl | (intro _; kernel_rfl)
       · conv => lhs; whnf
       · conv => lhs; whnf)
    | (apply s_lit0 rfl rfl
       · conv => lhs; whnf
       · first | (conv => lhs; whnf; arg 1; whnf))
    | (apply s_lit1 rfl rfl
       · conv => lhs; whnf
       · first | (conv => lhs; whnf; arg 1; whnf)
       · conv => lhs; whnf; arg 1; whnf
       · rfl
       · rfl)
    | (apply s_onlit rfl rfl
       · conv => lhs; whnf
       · first | (conv => lhs; whnf; arg 1; whnf)
       · first | exact fun _ => rfl | (intro _; kernel_rfl)
       · conv => lhs; whnf
       · conv => lhs; whnf)
    | (apply aw_cond_t
       · conv => lhs; whnf; arg 1; arg 1; whnf)
    | (apply aw_cond_f
       · conv => lhs; whnf; arg 1; arg 1; whnf)
    | (refine aw_cond (by conv => lhs; whnf) ?_ ?_ <;> intro hb)
    | refine aw_ret ?_
    | refine aw_exit ?_
    | refine k_seq_exit ?_
    | refine k_seq_ret ?_
    | refine k_block_ret ?_
    | refine k_block_hit rfl ?_
    | refine k_block_miss rfl ?_
    | refine k_scope_exit ?_
    | refine k_scope_ret ?_
    | refine k_loop_exit ?_
    | refine k_loop_ret ?_
    | refine k_end ?_
    | refine k_end_ret ?_
    | (refine ⟨_, by conv => lhs; whnf; arg 2; whnf, ?_⟩; conv => rhs; whnf)
    | exact trivial
    | intro hg)
  refine aw_sub (Sub.own (t := 3) (e := 26) rfl rfl) ?_
  refine aw_loop (fun j st => ∃ i, i + j = l.length ∧ Sub (cx E0 Tryz.prog s w he) st (HCf5 l i)) l.length ⟨0, by omega, Sub.live ⟨rfl, rfl, rfl, trivial⟩ ⟨rfl, trivial⟩⟩ ?_
  rintro j st ⟨i, hij, hs2⟩
  refine aw_sub hs2 ?_
  clear hs2
  by_cases hi : i < l.length
  · have f0 : decide ((i : Int) < (l.length : Nat)) = true := decide_eq_true (by omega)
    have h1 := hc i hi
    have htk : (l.take i).length = i := by rw [List.length_take]; omega
    repeat' (first
    | (apply s_lit [gD l i] rfl rfl
       · conv => lhs; whnf
       · first | exact elemValU | (conv => lhs; whnf; arg 1; whnf)
       · rfl
       · rfl
       · repeat' (first | exact trivial | apply And.intro | rfl))
    | (apply aw_cond_kt
       · conv => lhs; whnf
       · assumption)
    | (apply aw_cond_kf
       · conv => lhs; whnf
       · assumption)
    | refine k_cut_ret ?_
    | refine k_cut_exit ?_
    | refine k_cut ?_
    | refine aw_region ?_
    | refine awo_nil ?_
    | refine k_seq ?_
    | refine k_block ?_
    | refine k_scope ?_
    | (apply aw_1
       conv => whnf
       refine ⟨?_, trivial⟩)
    | (apply s_1
       conv => whnf; arg 1; arg 4; arg 3; whnf
       refine ⟨?_, ?_⟩)
    | (apply s_val rfl
       · conv => lhs; whnf
       · conv => lhs; whnf; arg 2; whnf)
    | (apply s_call rfl
       · conv => lhs; whnf
       · conv => lhs; whnf
       · first | exact h1)
    | (apply s_app rfl rfl
       · conv => lhs; whnf
       · first | exact elemValU | (conv => lhs; whnf; arg 1; whnf)
       · first | exact fun _ => rfl | (intro _; kernel_rfl)
       · conv => lhs; whnf
       · conv => lhs; whnf; arg 1; whnf
       · conv => lhs; whnf)
    | (apply s_app_nil rfl rfl rfl rfl
       · first | exact elemValU | (conv => lhs; whnf; arg 1; whnf)
       · first | exact fun _ => rfl | (intro _; kernel_rfl)
       · conv => lhs; whnf
       · conv => lhs; whnf)
    | (apply s_lit0 rfl rfl
       · conv => lhs; whnf
       · first | exact elemValU | (conv => lhs; whnf; arg 1; whnf))
    | (apply s_lit1 rfl rfl
       · conv => lhs; whnf
       · first | exact elemValU | (conv => lhs; whnf; arg 1; whnf)
       · conv => lhs; whnf; arg 1; whnf
       · rfl
       · rfl)
    | (apply s_onlit rfl rfl
       · conv => lhs; whnf
       · first | exact elemValU | (conv => lhs; whnf; arg 1; whnf)
       · first | exact fun _ => rfl | (intro _; kernel_rfl)
       · conv => lhs; whnf
       · conv => lhs; whnf)
    | (apply aw_cond_t
       · conv => lhs; whnf; arg 1; arg 1; whnf)
    | (apply aw_cond_f
       · conv => lhs; whnf; arg 1; arg 1; whnf)
    | (refine aw_cond (by conv => lhs; whnf) ?_ ?_ <;> intro hb)
    | refine aw_ret ?_
    | refine aw_exit ?_
    | refine k_seq_exit ?_
    | refine k_seq_ret ?_
    | refine k_block_ret ?_
    | refine k_block_hit rfl ?_
    | refine k_block_miss rfl ?_
    | refine k_scope_exit ?_
    | refine k_scope_ret ?_
    | refine k_loop_exit ?_
    | refine k_loop_ret ?_
    | refine k_end ?_
    | refine k_end_ret ?_
    | (refine ⟨_, by conv => lhs; whnf; arg 2; whnf, ?_⟩; conv => rhs; whnf)
    | exact trivial
    | intro hg)
    all_goals first
      | exact i64_in2 (by omega)
      | exact at31 hi
      | (refine ⟨by simp, ?_, ?_⟩ <;> simp only [List.length_cons, List.length_nil, maxLen, htk] <;> omega)
      | skip
    refine k_loop_next (j' := j - 1) (by omega) ⟨i + 1, by omega, Sub.live ⟨rfl, ?_, rfl, trivial⟩ ⟨?_, trivial⟩⟩
    · show V.own 3 _ (l.take i ++ [gD l i]) = V.own 3 _ (l.take (i + 1))
      rw [List.take_add_one, List.getElem?_eq_getElem hi, gD_get hi]; rfl
    · show some (Res.tok _ ((l.take i).length + 1)) = some (Res.tok _ (l.take (i + 1)).length)
      rw [htk, List.length_take, show min (i + 1) l.length = i + 1 by omega]
  · have f0 : decide ((i : Int) < (l.length : Nat)) = false := decide_eq_false (by omega)
    repeat' (first
    | (apply aw_cond_kt
       · conv => lhs; whnf
       · assumption)
    | (apply aw_cond_kf
       · conv => lhs; whnf
       · assumption)
    | refine k_cut_ret ?_
    | refine k_cut_exit ?_
    | refine k_cut ?_
    | refine aw_region ?_
    | refine awo_nil ?_
    | refine k_seq ?_
    | refine k_block ?_
    | refine k_scope ?_
    | (apply aw_1
       conv => whnf
       refine ⟨?_, trivial⟩)
    | (apply s_1
       conv => whnf; arg 1; arg 4; arg 3; whnf
       refine ⟨?_, ?_⟩)
    | (apply s_val rfl
       · conv => lhs; whnf
       · conv => lhs; whnf; arg 2; whnf)
    | (apply s_call rfl
       · conv => lhs; whnf
       · conv => lhs; whnf
       · first | fail)
    | (apply s_app rfl rfl
       · conv => lhs; whnf
       · first | (conv => lhs; whnf; arg 1; whnf)
       · first | exact fun _ => rfl | (intro _; kernel_rfl)
       · conv => lhs; whnf
       · conv => lhs; whnf; arg 1; whnf
       · conv => lhs; whnf)
    | (apply s_app_nil rfl rfl rfl rfl
       · first | (conv => lhs; whnf; arg 1; whnf)
       · first | exact fun _ => rfl | (intro _; kernel_rfl)
       · conv => lhs; whnf
       · conv => lhs; whnf)
    | (apply s_lit0 rfl rfl
       · conv => lhs; whnf
       · first | (conv => lhs; whnf; arg 1; whnf))
    | (apply s_lit1 rfl rfl
       · conv => lhs; whnf
       · first | (conv => lhs; whnf; arg 1; whnf)
       · conv => lhs; whnf; arg 1; whnf
       · rfl
       · rfl)
    | (apply s_onlit rfl rfl
       · conv => lhs; whnf
       · first | (conv => lhs; whnf; arg 1; whnf)
       · first | exact fun _ => rfl | (intro _; kernel_rfl)
       · conv => lhs; whnf
       · conv => lhs; whnf)
    | (apply aw_cond_t
       · conv => lhs; whnf; arg 1; arg 1; whnf)
    | (apply aw_cond_f
       · conv => lhs; whnf; arg 1; arg 1; whnf)
    | (refine aw_cond (by conv => lhs; whnf) ?_ ?_ <;> intro hb)
    | refine aw_ret ?_
    | refine aw_exit ?_
    | refine k_seq_exit ?_
    | refine k_seq_ret ?_
    | refine k_block_ret ?_
    | refine k_block_hit rfl ?_
    | refine k_block_miss rfl ?_
    | refine k_scope_exit ?_
    | refine k_scope_ret ?_
    | refine k_loop_exit ?_
    | refine k_loop_ret ?_
    | refine k_end ?_
    | refine k_end_ret ?_
    | (refine ⟨_, by conv => lhs; whnf; arg 2; whnf, ?_⟩; conv => rhs; whnf)
    | exact trivial
    | intro hg)
    rw [List.take_of_length_le (by omega)]
noncomputable def HC05 (d : D) : Vst 17 := stS 17 [(1, .bx 1 0), (2, .bx 2 0)] [(1, .box 26 (cellsV Tryz.prog 12 26 d)), (2, .box 26 [.c (.int .i64 0), .c (.int .i64 0), .c (.string ⟨#[]⟩), .c (.slice none 0 0), .c (.slice none 0 0)])]
set_option maxHeartbeats 8000000 in
set_option maxRecDepth 100000 in
theorem copyF_ac (E0 : Ge) : ∀ (k : Nat) (d : D), CpV k d → AC E0 Tryz.prog 24 [.agg (cellsV Tryz.prog 12 26 d)] (.agg (cellsV Tryz.prog 12 26 d))
  | 0, _, h => h.elim
  | k + 1, d, h => by
    have h1 := copiesF_of E0 (d.f 3).l h.1 fun i hi => copyF_ac E0 k _ (h.2.2 i hi)
    have hk : (d.f (0 + 1 + 1 + 1 + 1)).l.length ≤ 8796093022207 := h.2.1
    refine ac_enter 17 Tryz.func24 rfl rfl rfl rfl ?_
    intro s w he
    repeat' (first
    | (apply aw_drawA ([(1,[1]),(3,[1]),(5,[1]),(7,[1]),(11,[1])]) ([(9,[12]),(12,[12]),(14,[2])]) ([(9,12)]) rfl (by kernel_rfl) (by kernel_rfl) (by kernel_rfl) (by intro p hp; simp only [List.mem_cons, List.not_mem_nil, or_false] at hp; rcases hp with rfl <;> (repeat' (first | exact fresh_S rfl | refine fresh_put ?_ rfl | refine fresh_res ?_ rfl rfl))))
    | apply h_nil
    | (apply h_valW ((.agg (cellsV Tryz.prog 12 26 d))) rfl rfl
       · conv => lhs; whnf; arg 2; whnf
       · repeat' (first | exact VLe.refl _ | exact VLe.nil _ | exact VLe.lit _ _ | exact VLe.own _ _ _ | apply VLe.agg | apply VLeL.cons | exact VLeL.nil)
       · kernel_rfl)
    | (apply h_alloc rfl rfl rfl rfl
       · conv => lhs; whnf; arg 1; whnf
       · rfl
       · rfl
       · kernel_rfl)
    | (apply h_val rfl
       · conv => lhs; whnf
       · conv => lhs; whnf; arg 2; whnf
       · kernel_rfl)
    | (apply h_lit0 rfl rfl rfl rfl
       · first | exact elemStr5 | (conv => lhs; whnf; arg 1; whnf)
       · rfl
       · kernel_rfl)
    | (apply h_app rfl rfl
       · conv => lhs; whnf
       · first | exact elemStr5 | (conv => lhs; whnf; arg 1; whnf)
       · first | exact fun _ => rfl | (intro _; kernel_rfl)
       · conv => lhs; whnf
       · rfl
       · first | rfl | (conv => lhs; whnf; arg 1; whnf)
       · conv => lhs; whnf
       · kernel_rfl)
    | (apply h_store rfl rfl rfl
       · conv => lhs; whnf
       · rfl
       · conv => lhs; whnf; arg 1; whnf
       · conv => lhs; whnf; arg 1; whnf
       · exact ⟨by kernel_rfl, by kernel_rfl⟩
       · rfl
       · kernel_rfl)
    | (apply h_call rfl
       · conv => lhs; whnf
       · conv => lhs; whnf
       · first | exact h1
       · kernel_rfl)
    | (show inO _ _ = true; rfl)
    | apply aw_cutAt 1 (HC05 d) rfl
    | refine k_cut_ret ?_
    | refine k_cut_exit ?_
    | refine k_cut ?_
    | refine aw_region ?_
    | refine awo_nil ?_
    | refine k_seq ?_
    | refine k_block ?_
    | refine k_scope ?_
    | (apply aw_1
       conv => whnf
       refine ⟨?_, trivial⟩)
    | (apply s_1
       conv => whnf; arg 1; arg 4; arg 3; whnf
       refine ⟨?_, ?_⟩)
    | (apply s_val rfl
       · conv => lhs; whnf
       · conv => lhs; whnf; arg 2; whnf)
    | (apply s_call rfl
       · conv => lhs; whnf
       · conv => lhs; whnf
       · first | exact h1)
    | (apply s_box rfl rfl rfl rfl
       · conv => lhs; whnf; arg 1; whnf
       · rfl)
    | (apply s_alloc rfl rfl rfl rfl
       · conv => lhs; whnf; arg 1; whnf
       · rfl)
    | (apply s_store rfl rfl rfl
       · conv => lhs; whnf
       · conv => lhs; whnf; arg 1; whnf
       · conv => lhs; whnf; arg 1; whnf
       · exact ⟨by kernel_rfl, by kernel_rfl⟩
       · rfl)
    | (apply s_app rfl rfl
       · conv => lhs; whnf
       · first | exact elemStr5 | (conv => lhs; whnf; arg 1; whnf)
       · first | exact fun _ => rfl | (intro _; kernel_rfl)
       · conv => lhs; whnf
       · conv => lhs; whnf; arg 1; whnf
       · conv => lhs; whnf)
    | (apply s_app_nil rfl rfl rfl rfl
       · first | exact elemStr5 | (conv => lhs; whnf; arg 1; whnf)
       · first | exact fun _ => rfl | (intro _; kernel_rfl)
       · conv => lhs; whnf
       · conv => lhs; whnf)
    | (apply s_lit0 rfl rfl
       · conv => lhs; whnf
       · first | exact elemStr5 | (conv => lhs; whnf; arg 1; whnf))
    | (apply s_lit1 rfl rfl
       · conv => lhs; whnf
       · first | exact elemStr5 | (conv => lhs; whnf; arg 1; whnf)
       · conv => lhs; whnf; arg 1; whnf
       · rfl
       · rfl)
    | (apply s_onlit rfl rfl
       · conv => lhs; whnf
       · first | exact elemStr5 | (conv => lhs; whnf; arg 1; whnf)
       · first | exact fun _ => rfl | (intro _; kernel_rfl)
       · conv => lhs; whnf
       · conv => lhs; whnf)
    | (apply aw_draw (by kernel_rfl) (by kernel_rfl))
    | apply y_nil
    | (apply y_val rfl
       · conv => lhs; whnf
       · conv => lhs; whnf; arg 2; whnf)
    | (apply y_call rfl
       · conv => lhs; whnf
       · conv => lhs; whnf
       · first | exact h1)
    | (apply y_store rfl rfl rfl
       · conv => lhs; whnf
       · rfl
       · rfl
       · conv => lhs; whnf; arg 1; whnf
       · conv => lhs; whnf; arg 1; whnf
       · exact ⟨by kernel_rfl, by kernel_rfl⟩
       · rfl)
    | (apply y_app rfl rfl
       · conv => lhs; whnf
       · first | exact elemStr5 | (conv => lhs; whnf; arg 1; whnf)
       · first | exact fun _ => rfl | (intro _; kernel_rfl)
       · conv => lhs; whnf
       · rfl
       · rfl
       · conv => lhs; whnf; arg 1; whnf
       · conv => lhs; whnf)
    | (apply y_lit0 rfl rfl
       · conv => lhs; whnf
       · first | exact elemStr5 | (conv => lhs; whnf; arg 1; whnf))
    | (apply y_lit1 rfl rfl
       · conv => lhs; whnf
       · first | exact elemStr5 | (conv => lhs; whnf; arg 1; whnf)
       · conv => lhs; whnf; arg 1; whnf
       · rfl
       · rfl)
    | (apply y_onlit rfl rfl
       · conv => lhs; whnf
       · first | exact elemStr5 | (conv => lhs; whnf; arg 1; whnf)
       · first | exact fun _ => rfl | (intro _; kernel_rfl)
       · conv => lhs; whnf
       · conv => lhs; whnf)
    | exact apartB_none
    | exact apartB_nil
    | exact all_nil
    | (show List.all _ _ = true; rfl)
    | (show apartB _ _ = true; rfl)
    | exact ([] : List Nat)
    | exact (1000000 : Nat)
    | (apply aw_cond_t
       · conv => lhs; whnf; arg 1; arg 1; whnf)
    | (apply aw_cond_f
       · conv => lhs; whnf; arg 1; arg 1; whnf)
    | (refine aw_cond (by conv => lhs; whnf) ?_ ?_ <;> intro hb)
    | refine aw_ret ?_
    | refine aw_exit ?_
    | refine k_seq_exit ?_
    | refine k_seq_ret ?_
    | refine k_block_ret ?_
    | refine k_block_hit rfl ?_
    | refine k_block_miss rfl ?_
    | refine k_scope_exit ?_
    | refine k_scope_ret ?_
    | refine k_loop_exit ?_
    | refine k_loop_ret ?_
    | refine k_end ?_
    | refine k_end_ret ?_
    | (refine ⟨_, by conv => lhs; whnf; arg 2; whnf, ?_⟩; conv => rhs; whnf)
    | exact trivial
    | intro hg)
    all_goals first
      | exact Sub.live ⟨rfl, rfl, trivial⟩ ⟨rfl, rfl, trivial⟩
      | (refine ⟨?_, ?_⟩ <;> simp only [List.length_nil, maxLen] <;> omega)
      | (refine ⟨by simp, ?_, ?_⟩ <;> simp only [List.length_append, List.length_cons, List.length_nil, maxLen] <;> omega)
      | rfl
      | skip
set_option maxHeartbeats 8000000 in
set_option maxRecDepth 100000 in
theorem listF_ac (E0 : Ge) (k : Nat) (l : List D) (hl : l.length ≤ 1759218604441) (hc : ∀ i, i < l.length → CpV k (gD l i)) : AC E0 Tryz.prog 5 [.sl 26 l] (.agg (cellsV Tryz.prog 12 26 (lstV5 l))) := by
  have h1 := copiesF_of E0 l hl fun i hi => copyF_ac E0 k _ (hc i hi)
  refine ac_enter 6 Tryz.func5 rfl rfl rfl rfl ?_
  intro s w he
  repeat' (first
    | (apply s_valW ((.agg (cellsV Tryz.prog 12 26 (lstV5 l)))) rfl rfl
       · conv => lhs; whnf; arg 2; whnf
       · repeat' (first | exact VLe.refl _ | exact VLe.nil _ | exact VLe.lit _ _ | exact VLe.own _ _ _ | apply VLe.agg | apply VLeL.cons | exact VLeL.nil))
    | refine aw_region ?_
    | refine awo_nil ?_
    | refine k_seq ?_
    | refine k_block ?_
    | refine k_scope ?_
    | (apply aw_1
       conv => whnf
       refine ⟨?_, trivial⟩)
    | (apply s_1
       conv => whnf; arg 1; arg 4; arg 3; whnf
       refine ⟨?_, ?_⟩)
    | (apply s_val rfl
       · conv => lhs; whnf
       · conv => lhs; whnf; arg 2; whnf)
    | (apply s_call rfl
       · conv => lhs; whnf
       · conv => lhs; whnf
       · first | exact h1)
    | (apply s_alloc rfl rfl rfl rfl
       · conv => lhs; whnf; arg 1; whnf
       · rfl)
    | (apply s_store rfl rfl rfl
       · conv => lhs; whnf
       · conv => lhs; whnf; arg 1; whnf
       · conv => lhs; whnf; arg 1; whnf
       · exact ⟨by kernel_rfl, by kernel_rfl⟩
       · rfl)
    | (apply aw_cond_t
       · conv => lhs; whnf; arg 1; arg 1; whnf)
    | (apply aw_cond_f
       · conv => lhs; whnf; arg 1; arg 1; whnf)
    | (refine aw_cond (by conv => lhs; whnf) ?_ ?_ <;> intro hb)
    | refine aw_ret ?_
    | refine aw_exit ?_
    | refine k_seq_exit ?_
    | refine k_seq_ret ?_
    | refine k_block_ret ?_
    | refine k_block_hit rfl ?_
    | refine k_block_miss rfl ?_
    | refine k_scope_exit ?_
    | refine k_scope_ret ?_
    | refine k_loop_exit ?_
    | refine k_loop_ret ?_
    | refine k_end ?_
    | refine k_end_ret ?_
    | (refine ⟨_, by conv => lhs; whnf; arg 2; whnf, ?_⟩; conv => rhs; whnf)
    | exact trivial
    | intro hg)
  all_goals rfl
set_option maxHeartbeats 8000000 in
set_option maxRecDepth 100000 in
theorem listP_ac (E0 : Ge) (k : Nat) (l : List D) (hl : l.length ≤ 1759218604441) (hc : ∀ i, i < l.length → CpV k (gD l i)) : AC E0 Tryz.prog 31 [.sl 26 l] (.agg (cellsV Tryz.prog 12 26 (lstV5 l))) := by
  have h1 := copies_of E0 l hl fun i hi => copy_ac E0 k _ (hc i hi)
  refine ac_enter 6 Tryz.func31 rfl rfl rfl rfl ?_
  intro s w he
  repeat' (first
    | (apply s_valW ((.agg (cellsV Tryz.prog 12 26 (lstV5 l)))) rfl rfl
       · conv => lhs; whnf; arg 2; whnf
       · repeat' (first | exact VLe.refl _ | exact VLe.nil _ | exact VLe.lit _ _ | exact VLe.own _ _ _ | apply VLe.agg | apply VLeL.cons | exact VLeL.nil))
    | refine aw_region ?_
    | refine awo_nil ?_
    | refine k_seq ?_
    | refine k_block ?_
    | refine k_scope ?_
    | (apply aw_1
       conv => whnf
       refine ⟨?_, trivial⟩)
    | (apply s_1
       conv => whnf; arg 1; arg 4; arg 3; whnf
       refine ⟨?_, ?_⟩)
    | (apply s_val rfl
       · conv => lhs; whnf
       · conv => lhs; whnf; arg 2; whnf)
    | (apply s_call rfl
       · conv => lhs; whnf
       · conv => lhs; whnf
       · first | exact h1)
    | (apply s_alloc rfl rfl rfl rfl
       · conv => lhs; whnf; arg 1; whnf
       · rfl)
    | (apply s_store rfl rfl rfl
       · conv => lhs; whnf
       · conv => lhs; whnf; arg 1; whnf
       · conv => lhs; whnf; arg 1; whnf
       · exact ⟨by kernel_rfl, by kernel_rfl⟩
       · rfl)
    | (apply aw_cond_t
       · conv => lhs; whnf; arg 1; arg 1; whnf)
    | (apply aw_cond_f
       · conv => lhs; whnf; arg 1; arg 1; whnf)
    | (refine aw_cond (by conv => lhs; whnf) ?_ ?_ <;> intro hb)
    | refine aw_ret ?_
    | refine aw_exit ?_
    | refine k_seq_exit ?_
    | refine k_seq_ret ?_
    | refine k_block_ret ?_
    | refine k_block_hit rfl ?_
    | refine k_block_miss rfl ?_
    | refine k_scope_exit ?_
    | refine k_scope_ret ?_
    | refine k_loop_exit ?_
    | refine k_loop_ret ?_
    | refine k_end ?_
    | refine k_end_ret ?_
    | (refine ⟨_, by conv => lhs; whnf; arg 2; whnf, ?_⟩; conv => rhs; whnf)
    | exact trivial
    | intro hg)
  all_goals rfl
set_option maxHeartbeats 8000000 in
set_option maxRecDepth 100000 in
theorem textP_ac (E0 : Ge) (t : ByteArray) : AC E0 Tryz.prog 30 [.c (.string t)] (.agg (cellsV Tryz.prog 12 26 (strV5 t))) := by
  refine ac_enter 5 Tryz.func30 rfl rfl rfl rfl ?_
  intro s w he
  repeat' (first
    | (apply s_valW ((.agg (cellsV Tryz.prog 12 26 (strV5 t)))) rfl rfl
       · conv => lhs; whnf; arg 2; whnf
       · repeat' (first | exact VLe.refl _ | exact VLe.nil _ | exact VLe.lit _ _ | exact VLe.own _ _ _ | apply VLe.agg | apply VLeL.cons | exact VLeL.nil))
    | refine aw_region ?_
    | refine awo_nil ?_
    | refine k_seq ?_
    | refine k_block ?_
    | refine k_scope ?_
    | (apply aw_1
       conv => whnf
       refine ⟨?_, trivial⟩)
    | (apply s_1
       conv => whnf; arg 1; arg 4; arg 3; whnf
       refine ⟨?_, ?_⟩)
    | (apply s_val rfl
       · conv => lhs; whnf
       · conv => lhs; whnf; arg 2; whnf)
    | (apply s_alloc rfl rfl rfl rfl
       · conv => lhs; whnf; arg 1; whnf
       · rfl)
    | (apply s_store rfl rfl rfl
       · conv => lhs; whnf
       · conv => lhs; whnf; arg 1; whnf
       · conv => lhs; whnf; arg 1; whnf
       · exact ⟨by kernel_rfl, by kernel_rfl⟩
       · rfl)
    | (apply aw_cond_t
       · conv => lhs; whnf; arg 1; arg 1; whnf)
    | (apply aw_cond_f
       · conv => lhs; whnf; arg 1; arg 1; whnf)
    | (refine aw_cond (by conv => lhs; whnf) ?_ ?_ <;> intro hb)
    | refine aw_ret ?_
    | refine aw_exit ?_
    | refine k_seq_exit ?_
    | refine k_seq_ret ?_
    | refine k_block_ret ?_
    | refine k_block_hit rfl ?_
    | refine k_block_miss rfl ?_
    | refine k_scope_exit ?_
    | refine k_scope_ret ?_
    | refine k_loop_exit ?_
    | refine k_loop_ret ?_
    | refine k_end ?_
    | refine k_end_ret ?_
    | (refine ⟨_, by conv => lhs; whnf; arg 2; whnf, ?_⟩; conv => rhs; whnf)
    | exact trivial
    | intro hg)
  all_goals rfl
set_option maxHeartbeats 8000000 in
set_option maxRecDepth 100000 in
theorem object_ac (E0 : Ge) (a b : ByteArray) (x y : D) : AC E0 Tryz.prog 29 [.c (.string a), .agg (cellsV Tryz.prog 12 26 x), .c (.string b), .agg (cellsV Tryz.prog 12 26 y)] (.agg (cellsV Tryz.prog 12 26 (objV5 [.str a, .str b] [x, y]))) := by
  refine ac_enter 16 Tryz.func29 rfl rfl rfl rfl ?_
  intro s w he
  repeat' (first
    | (apply s_lit [.str a, .str b] rfl rfl
       · conv => lhs; whnf
       · first | exact elemStr5 | exact elemValU | (conv => lhs; whnf; arg 1; whnf)
       · rfl
       · rfl
       · repeat' (first | exact trivial | apply And.intro | rfl))
    | (apply s_lit [x, y] rfl rfl
       · conv => lhs; whnf
       · first | exact elemStr5 | exact elemValU | (conv => lhs; whnf; arg 1; whnf)
       · rfl
       · rfl
       · repeat' (first | exact trivial | apply And.intro | rfl))
    | (apply s_valW ((.agg (cellsV Tryz.prog 12 26 (objV5 [.str a, .str b] [x, y])))) rfl rfl
       · conv => lhs; whnf; arg 2; whnf
       · repeat' (first | exact VLe.refl _ | exact VLe.nil _ | exact VLe.lit _ _ | exact VLe.own _ _ _ | apply VLe.agg | apply VLeL.cons | exact VLeL.nil))
    | refine aw_region ?_
    | refine awo_nil ?_
    | refine k_seq ?_
    | refine k_block ?_
    | refine k_scope ?_
    | (apply aw_1
       conv => whnf
       refine ⟨?_, trivial⟩)
    | (apply s_1
       conv => whnf; arg 1; arg 4; arg 3; whnf
       refine ⟨?_, ?_⟩)
    | (apply s_val rfl
       · conv => lhs; whnf
       · conv => lhs; whnf; arg 2; whnf)
    | (apply s_box rfl rfl rfl rfl
       · conv => lhs; whnf; arg 1; whnf
       · rfl)
    | (apply s_alloc rfl rfl rfl rfl
       · conv => lhs; whnf; arg 1; whnf
       · rfl)
    | (apply s_store rfl rfl rfl
       · conv => lhs; whnf
       · conv => lhs; whnf; arg 1; whnf
       · conv => lhs; whnf; arg 1; whnf
       · exact ⟨by kernel_rfl, by kernel_rfl⟩
       · rfl)
    | (apply s_lit0 rfl rfl
       · conv => lhs; whnf
       · first | exact elemStr5 | exact elemValU | (conv => lhs; whnf; arg 1; whnf))
    | (apply s_lit1 rfl rfl
       · conv => lhs; whnf
       · first | exact elemStr5 | exact elemValU | (conv => lhs; whnf; arg 1; whnf)
       · conv => lhs; whnf; arg 1; whnf
       · rfl
       · rfl)
    | (apply aw_cond_t
       · conv => lhs; whnf; arg 1; arg 1; whnf)
    | (apply aw_cond_f
       · conv => lhs; whnf; arg 1; arg 1; whnf)
    | (refine aw_cond (by conv => lhs; whnf) ?_ ?_ <;> intro hb)
    | refine aw_ret ?_
    | refine aw_exit ?_
    | refine k_seq_exit ?_
    | refine k_seq_ret ?_
    | refine k_block_ret ?_
    | refine k_block_hit rfl ?_
    | refine k_block_miss rfl ?_
    | refine k_scope_exit ?_
    | refine k_scope_ret ?_
    | refine k_loop_exit ?_
    | refine k_loop_ret ?_
    | refine k_end ?_
    | refine k_end_ret ?_
    | (refine ⟨_, by conv => lhs; whnf; arg 2; whnf, ?_⟩; conv => rhs; whnf)
    | exact trivial
    | intro hg)
  all_goals rfl
end Go.Proofs.YtdklhkdlndlgnaaGreatDoor
namespace Go.Proofs.YtdklhkdlndlgnaaGreatDoor
open Go.RowKit
set_option linter.unusedSectionVars false
attribute [local irreducible] wpList Calls Code.wp AW AWo OpOk seqK blockK scopeK loopK endK AC absLex Yld Sub
attribute [local irreducible] ACB ACX absLexG YldG absLexH
/-- the list of problems under way -/
def prV5 (l : List D) (i : Nat) : List D := (l.take i).map probD
set_option maxHeartbeats 8000000 in
set_option maxRecDepth 100000 in
theorem prV5_succ {l : List D} {i : Nat} (hi : i < l.length) : prV5 l (i + 1) = prV5 l i ++ [probD (gD l i)] := by
  show (l.take (i + 1)).map probD = (l.take i).map probD ++ [probD (gD l i)]
  rw [List.take_add_one, List.getElem?_eq_getElem hi, List.map_append, gD_get hi]; rfl
set_option maxHeartbeats 8000000 in
set_option maxRecDepth 100000 in
theorem prV5_len {l : List D} {i : Nat} (hi : i ≤ l.length) : (prV5 l i).length = i := by unfold prV5; rw [List.length_map, List.length_take]; omega
set_option maxHeartbeats 8000000 in
set_option maxRecDepth 100000 in
theorem prV5_all {l : List D} {i : Nat} (hi : l.length ≤ i) : prV5 l i = l.map probD := by unfold prV5; rw [List.take_of_length_le hi]
noncomputable def HRp (d : D) (l : List D) (i : Nat) : Vst 40 :=
  stS 40 [(2, .bx 2 0), (4, .bx 4 0), (5, .bx 5 0), (17, .sl 35 l), (18, .c (.int .i64 (l.length : Nat))), (19, .c (.int .i64 (i : Int)))]
    [(2, .box 26 (cellsV Tryz.prog 12 26 d)), (4, .box 26 [.c (.int .i64 0), .c (.int .i64 0), .c (.string ⟨#[]⟩), .c (.slice none 0 0), .c (.slice none 0 0)]),
     (5, .box 26 [.c (.int .i64 5), .c (.int .i64 0), .c (.string ⟨#[]⟩), .own 900 26 (prV5 l i), .c (.slice none 0 0)]), (900, .tok 26 (prV5 l i).length)]
/-- what can be copied of a response -/
structure RespC (k : Nat) (d : D) (l : List D) : Prop where
  data : CpV k d
  len : l.length ≤ 393216
  path : ∀ i, i < l.length → ((gD l i).f 0).l.length ≤ 6291456 ∧ ∀ j, j < ((gD l i).f 0).l.length → CpV k (gD ((gD l i).f 0).l j)
set_option maxHeartbeats 8000000 in
set_option maxRecDepth 100000 in
theorem respP_ac (E0 : Ge) (k : Nat) (d : D) (l : List D) (h : RespC k d l) : AC E0 Tryz.prog 15 [.agg (cellsV Tryz.prog 12 26 d), .sl 35 l] (.agg (cellsV Tryz.prog 12 26 (respD d l))) := by
  have h1 := copy_ac E0 k d h.data
  have hln := h.len
  by_cases hl : l = []
  · have f1 : ((l.length : Int) == 0) = true := by rw [hl]; rfl
    have e : respD d l = objV5 [kData] [d] := by unfold respD; rw [if_pos hl]
    rw [e]
    refine ac_enter 40 Tryz.func15 rfl rfl rfl rfl ?_
    intro s w he
    repeat' (first
    | (apply s_lit [kData] rfl rfl
       · conv => lhs; whnf
       · first | exact elemStr5 | exact elemValU | (conv => lhs; whnf; arg 1; whnf)
       · rfl
       · rfl
       · repeat' (first | exact trivial | apply And.intro | rfl))
    | (apply s_lit [d] rfl rfl
       · conv => lhs; whnf
       · first | exact elemStr5 | exact elemValU | (conv => lhs; whnf; arg 1; whnf)
       · rfl
       · rfl
       · repeat' (first | exact trivial | apply And.intro | rfl))
    | (apply s_valW ((.agg (cellsV Tryz.prog 12 26 (objV5 [kData] [d])))) rfl rfl
       · conv => lhs; whnf; arg 2; whnf
       · repeat' (first | exact VLe.refl _ | exact VLe.nil _ | exact VLe.lit _ _ | exact VLe.own _ _ _ | apply VLe.agg | apply VLeL.cons | exact VLeL.nil))
    | (apply aw_cond_kt
       · conv => lhs; whnf
       · assumption)
    | (apply aw_cond_kf
       · conv => lhs; whnf
       · assumption)
    | refine k_cut_ret ?_
    | refine k_cut_exit ?_
    | refine k_cut ?_
    | refine aw_region ?_
    | refine awo_nil ?_
    | refine k_seq ?_
    | refine k_block ?_
    | refine k_scope ?_
    | (apply aw_1
       conv => whnf
       refine ⟨?_, trivial⟩)
    | (apply s_1
       conv => whnf; arg 1; arg 4; arg 3; whnf
       refine ⟨?_, ?_⟩)
    | (apply s_val rfl
       · conv => lhs; whnf
       · conv => lhs; whnf; arg 2; whnf)
    | (apply s_call rfl
       · conv => lhs; whnf
       · conv => lhs; whnf
       · first | exact h1)
    | (apply s_box rfl rfl rfl rfl
       · conv => lhs; whnf; arg 1; whnf
       · rfl)
    | (apply s_alloc rfl rfl rfl rfl
       · conv => lhs; whnf; arg 1; whnf
       · rfl)
    | (apply s_store rfl rfl rfl
       · conv => lhs; whnf
       · conv => lhs; whnf; arg 1; whnf
       · conv => lhs; whnf; arg 1; whnf
       · exact ⟨by kernel_rfl, by kernel_rfl⟩
       · rfl)
    | (apply s_app rfl rfl
       · conv => lhs; whnf
       · first | exact elemStr5 | exact elemValU | (conv => lhs; whnf; arg 1; whnf)
       · first | exact fun _ => rfl | (intro _; kernel_rfl)
       · conv => lhs; whnf
       · conv => lhs; whnf; arg 1; whnf
       · conv => lhs; whnf)
    | (apply s_app_nil rfl rfl rfl rfl
       · first | exact elemStr5 | exact elemValU | (conv => lhs; whnf; arg 1; whnf)
       · first | exact fun _ => rfl | (intro _; kernel_rfl)
       · conv => lhs; whnf
       · conv => lhs; whnf)
    | (apply s_lit0 rfl rfl
       · conv => lhs; whnf
       · first | exact elemStr5 | exact elemValU | (conv => lhs; whnf; arg 1; whnf))
    | (apply s_lit1 rfl rfl
       · conv => lhs; whnf
       · first | exact elemStr5 | exact elemValU | (conv => lhs; whnf; arg 1; whnf)
       · conv => lhs; whnf; arg 1; whnf
       · rfl
       · rfl)
    | (apply s_onlit rfl rfl
       · conv => lhs; whnf
       · first | exact elemStr5 | exact elemValU | (conv => lhs; whnf; arg 1; whnf)
       · first | exact fun _ => rfl | (intro _; kernel_rfl)
       · conv => lhs; whnf
       · conv => lhs; whnf)
    | (apply aw_draw (by kernel_rfl) (by kernel_rfl))
    | apply y_nil
    | (apply y_val rfl
       · conv => lhs; whnf
       · conv => lhs; whnf; arg 2; whnf)
    | (apply y_call rfl
       · conv => lhs; whnf
       · conv => lhs; whnf
       · first | exact h1)
    | (apply y_store rfl rfl rfl
       · conv => lhs; whnf
       · rfl
       · rfl
       · conv => lhs; whnf; arg 1; whnf
       · conv => lhs; whnf; arg 1; whnf
       · exact ⟨by kernel_rfl, by kernel_rfl⟩
       · rfl)
    | (apply y_app rfl rfl
       · conv => lhs; whnf
       · first | exact elemStr5 | exact elemValU | (conv => lhs; whnf; arg 1; whnf)
       · first | exact fun _ => rfl | (intro _; kernel_rfl)
       · conv => lhs; whnf
       · rfl
       · rfl
       · conv => lhs; whnf; arg 1; whnf
       · conv => lhs; whnf)
    | (apply y_lit0 rfl rfl
       · conv => lhs; whnf
       · first | exact elemStr5 | exact elemValU | (conv => lhs; whnf; arg 1; whnf))
    | (apply y_lit1 rfl rfl
       · conv => lhs; whnf
       · first | exact elemStr5 | exact elemValU | (conv => lhs; whnf; arg 1; whnf)
       · conv => lhs; whnf; arg 1; whnf
       · rfl
       · rfl)
    | (apply y_onlit rfl rfl
       · conv => lhs; whnf
       · first | exact elemStr5 | exact elemValU | (conv => lhs; whnf; arg 1; whnf)
       · first | exact fun _ => rfl | (intro _; kernel_rfl)
       · conv => lhs; whnf
       · conv => lhs; whnf)
    | exact apartB_none
    | exact apartB_nil
    | exact all_nil
    | (show List.all _ _ = true; rfl)
    | (show apartB _ _ = true; rfl)
    | exact ([] : List Nat)
    | exact (1000000 : Nat)
    | (apply aw_cond_t
       · conv => lhs; whnf; arg 1; arg 1; whnf)
    | (apply aw_cond_f
       · conv => lhs; whnf; arg 1; arg 1; whnf)
    | (refine aw_cond (by conv => lhs; whnf) ?_ ?_ <;> intro hb)
    | refine aw_ret ?_
    | refine aw_exit ?_
    | refine k_seq_exit ?_
    | refine k_seq_ret ?_
    | refine k_block_ret ?_
    | refine k_block_hit rfl ?_
    | refine k_block_miss rfl ?_
    | refine k_scope_exit ?_
    | refine k_scope_ret ?_
    | refine k_loop_exit ?_
    | refine k_loop_ret ?_
    | refine k_end ?_
    | refine k_end_ret ?_
    | (refine ⟨_, by conv => lhs; whnf; arg 2; whnf, ?_⟩; conv => rhs; whnf)
    | exact trivial
    | intro hg)
    all_goals rfl
  · have hl0 : 0 < l.length := List.length_pos_iff.2 hl
    have f1 : ((l.length : Int) == 0) = false := by rw [beq_eq_false_iff_ne]; omega
    have e : respD d l = objV5 [kData, kErrors] [d, lstV5 (l.map probD)] := by unfold respD; rw [if_neg hl]
    rw [e]
    refine ac_enter 40 Tryz.func15 rfl rfl rfl rfl ?_
    intro s w he
    repeat' (first
    | (apply aw_cond_kt
       · conv => lhs; whnf
       · assumption)
    | (apply aw_cond_kf
       · conv => lhs; whnf
       · assumption)
    | refine k_cut_ret ?_
    | refine k_cut_exit ?_
    | refine k_cut ?_
    | refine aw_region ?_
    | refine awo_nil ?_
    | refine k_seq ?_
    | refine k_block ?_
    | refine k_scope ?_
    | (apply aw_1
       conv => whnf
       refine ⟨?_, trivial⟩)
    | (apply s_1
       conv => whnf; arg 1; arg 4; arg 3; whnf
       refine ⟨?_, ?_⟩)
    | (apply s_val rfl
       · conv => lhs; whnf
       · conv => lhs; whnf; arg 2; whnf)
    | (apply s_call rfl
       · conv => lhs; whnf
       · conv => lhs; whnf
       · first | exact h1)
    | (apply s_box rfl rfl rfl rfl
       · conv => lhs; whnf; arg 1; whnf
       · rfl)
    | (apply s_alloc rfl rfl rfl rfl
       · conv => lhs; whnf; arg 1; whnf
       · rfl)
    | (apply s_store rfl rfl rfl
       · conv => lhs; whnf
       · conv => lhs; whnf; arg 1; whnf
       · conv => lhs; whnf; arg 1; whnf
       · exact ⟨by kernel_rfl, by kernel_rfl⟩
       · rfl)
    | (apply s_app rfl rfl
       · conv => lhs; whnf
       · first | (conv => lhs; whnf; arg 1; whnf)
       · first | exact fun _ => rfl | (intro _; kernel_rfl)
       · conv => lhs; whnf
       · conv => lhs; whnf; arg 1; whnf
       · conv => lhs; whnf)
    | (apply s_app_nil rfl rfl rfl rfl
       · first | (conv => lhs; whnf; arg 1; whnf)
       · first | exact fun _ => rfl | (intro _; kernel_rfl)
       · conv => lhs; whnf
       · conv => lhs; whnf)
    | (apply s_lit0 rfl rfl
       · conv => lhs; whnf
       · first | (conv => lhs; whnf; arg 1; whnf))
    | (apply s_lit1 rfl rfl
       · conv => lhs; whnf
       · first | (conv => lhs; whnf; arg 1; whnf)
       · conv => lhs; whnf; arg 1; whnf
       · rfl
       · rfl)
    | (apply s_onlit rfl rfl
       · conv => lhs; whnf
       · first | (conv => lhs; whnf; arg 1; whnf)
       · first | exact fun _ => rfl | (intro _; kernel_rfl)
       · conv => lhs; whnf
       · conv => lhs; whnf)
    | (apply aw_draw (by kernel_rfl) (by kernel_rfl))
    | apply y_nil
    | (apply y_val rfl
       · conv => lhs; whnf
       · conv => lhs; whnf; arg 2; whnf)
    | (apply y_call rfl
       · conv => lhs; whnf
       · conv => lhs; whnf
       · first | exact h1)
    | (apply y_store rfl rfl rfl
       · conv => lhs; whnf
       · rfl
       · rfl
       · conv => lhs; whnf; arg 1; whnf
       · conv => lhs; whnf; arg 1; whnf
       · exact ⟨by kernel_rfl, by kernel_rfl⟩
       · rfl)
    | (apply y_app rfl rfl
       · conv => lhs; whnf
       · first | (conv => lhs; whnf; arg 1; whnf)
       · first | exact fun _ => rfl | (intro _; kernel_rfl)
       · conv => lhs; whnf
       · rfl
       · rfl
       · conv => lhs; whnf; arg 1; whnf
       · conv => lhs; whnf)
    | (apply y_lit0 rfl rfl
       · conv => lhs; whnf
       · first | (conv => lhs; whnf; arg 1; whnf))
    | (apply y_lit1 rfl rfl
       · conv => lhs; whnf
       · first | (conv => lhs; whnf; arg 1; whnf)
       · conv => lhs; whnf; arg 1; whnf
       · rfl
       · rfl)
    | (apply y_onlit rfl rfl
       · conv => lhs; whnf
       · first | (conv => lhs; whnf; arg 1; whnf)
       · first | exact fun _ => rfl | (intro _; kernel_rfl)
       · conv => lhs; whnf
       · conv => lhs; whnf)
    | exact apartB_none
    | exact apartB_nil
    | exact all_nil
    | (show List.all _ _ = true; rfl)
    | (show apartB _ _ = true; rfl)
    | exact ([] : List Nat)
    | exact (1000000 : Nat)
    | (apply aw_cond_t
       · conv => lhs; whnf; arg 1; arg 1; whnf)
    | (apply aw_cond_f
       · conv => lhs; whnf; arg 1; arg 1; whnf)
    | (refine aw_cond (by conv => lhs; whnf) ?_ ?_ <;> intro hb)
    | refine aw_ret ?_
    | refine aw_exit ?_
    | refine k_seq_exit ?_
    | refine k_seq_ret ?_
    | refine k_block_ret ?_
    | refine k_block_hit rfl ?_
    | refine k_block_miss rfl ?_
    | refine k_scope_exit ?_
    | refine k_scope_ret ?_
    | refine k_loop_exit ?_
    | refine k_loop_ret ?_
    | refine k_end ?_
    | refine k_end_ret ?_
    | (refine ⟨_, by conv => lhs; whnf; arg 2; whnf, ?_⟩; conv => rhs; whnf)
    | exact trivial
    | intro hg)
    refine aw_sub (Sub.ownF (m := 5) (q := 900) (i := 3) (e := 26) rfl (by decide) rfl rfl rfl) ?_
    refine aw_loop (fun j st => ∃ i, i + j = l.length ∧ Sub (cx E0 Tryz.prog s w he) st (HRp d l i)) l.length ⟨0, by omega, Sub.live ⟨rfl, rfl, rfl, rfl, rfl, rfl, trivial⟩ ⟨rfl, rfl, rfl, rfl, trivial⟩⟩ ?_
    rintro j st ⟨i, hij, hs2⟩
    refine aw_sub hs2 ?_
    clear hs2
    by_cases hi : i < l.length
    · have f0 : decide ((i : Int) < (l.length : Nat)) = true := decide_eq_true (by omega)
      have hp := h.path i hi
      have h2 := textP_ac E0 ((gD l i).f 1).s
      have h3 := listP_ac E0 k ((gD l i).f 0).l (by omega) hp.2
      have h5 := object_ac E0 ⟨#[109, 101, 115, 115, 97, 103, 101]⟩ ⟨#[112, 97, 116, 104]⟩ (strV5 ((gD l i).f 1).s) (lstV5 ((gD l i).f 0).l)
      have hpl := prV5_len (show i ≤ l.length by omega)
      repeat' (first
    | (apply aw_drawGn 13 ([(1,[5]),(3,[7]),(6,[7])]) ([(10,[900]),(12,[5])]) rfl (by kernel_rfl) (by kernel_rfl) (by kernel_rfl))
    | apply g_nil
    | (apply g_val rfl
       · conv => lhs; whnf
       · conv => lhs; whnf; arg 2; whnf)
    | (apply g_call rfl
       · conv => lhs; whnf
       · conv => lhs; whnf
       · first | exact h2 | exact h3 | exact h5)
    | (apply g_app rfl rfl
       · conv => lhs; whnf
       · first | exact elemValU | (conv => lhs; whnf; arg 1; whnf)
       · first | exact fun _ => rfl | (intro _; kernel_rfl)
       · conv => lhs; whnf
       · rfl
       · conv => lhs; whnf; arg 1; whnf
       · conv => lhs; whnf)
    | (apply g_store rfl rfl rfl
       · conv => lhs; whnf
       · rfl
       · conv => lhs; whnf; arg 1; whnf
       · conv => lhs; whnf; arg 1; whnf
       · exact ⟨by kernel_rfl, by kernel_rfl⟩
       · rfl)
    | (show inO _ _ = true; rfl)
    | (apply g_lit [probD (gD l i)] rfl rfl
       · conv => lhs; whnf
       · first | exact elemValU | (conv => lhs; whnf; arg 1; whnf)
       · rfl
       · rfl
       · repeat' (first | exact trivial | apply And.intro | rfl))
    | (apply aw_cond_kt
       · conv => lhs; whnf
       · assumption)
    | (apply aw_cond_kf
       · conv => lhs; whnf
       · assumption)
    | refine k_cut_ret ?_
    | refine k_cut_exit ?_
    | refine k_cut ?_
    | refine aw_region ?_
    | refine awo_nil ?_
    | refine k_seq ?_
    | refine k_block ?_
    | refine k_scope ?_
    | (apply aw_1
       conv => whnf
       refine ⟨?_, trivial⟩)
    | (apply s_1
       conv => whnf; arg 1; arg 4; arg 3; whnf
       refine ⟨?_, ?_⟩)
    | (apply s_val rfl
       · conv => lhs; whnf
       · conv => lhs; whnf; arg 2; whnf)
    | (apply s_call rfl
       · conv => lhs; whnf
       · conv => lhs; whnf
       · first | exact h2 | exact h3 | exact h5)
    | (apply s_box rfl rfl rfl rfl
       · conv => lhs; whnf; arg 1; whnf
       · rfl)
    | (apply s_alloc rfl rfl rfl rfl
       · conv => lhs; whnf; arg 1; whnf
       · rfl)
    | (apply s_store rfl rfl rfl
       · conv => lhs; whnf
       · conv => lhs; whnf; arg 1; whnf
       · conv => lhs; whnf; arg 1; whnf
       · exact ⟨by kernel_rfl, by kernel_rfl⟩
       · rfl)
    | (apply s_app rfl rfl
       · conv => lhs; whnf
       · first | exact elemValU | (conv => lhs; whnf; arg 1; whnf)
       · first | exact fun _ => rfl | (intro _; kernel_rfl)
       · conv => lhs; whnf
       · conv => lhs; whnf; arg 1; whnf
       · conv => lhs; whnf)
    | (apply s_app_nil rfl rfl rfl rfl
       · first | exact elemValU | (conv => lhs; whnf; arg 1; whnf)
       · first | exact fun _ => rfl | (intro _; kernel_rfl)
       · conv => lhs; whnf
       · conv => lhs; whnf)
    | (apply s_lit0 rfl rfl
       · conv => lhs; whnf
       · first | exact elemValU | (conv => lhs; whnf; arg 1; whnf))
    | (apply s_lit1 rfl rfl
       · conv => lhs; whnf
       · first | exact elemValU | (conv => lhs; whnf; arg 1; whnf)
       · conv => lhs; whnf; arg 1; whnf
       · rfl
       · rfl)
    | (apply s_onlit rfl rfl
       · conv => lhs; whnf
       · first | exact elemValU | (conv => lhs; whnf; arg 1; whnf)
       · first | exact fun _ => rfl | (intro _; kernel_rfl)
       · conv => lhs; whnf
       · conv => lhs; whnf)
    | (apply aw_draw (by kernel_rfl) (by kernel_rfl))
    | apply y_nil
    | (apply y_val rfl
       · conv => lhs; whnf
       · conv => lhs; whnf; arg 2; whnf)
    | (apply y_call rfl
       · conv => lhs; whnf
       · conv => lhs; whnf
       · first | exact h2 | exact h3 | exact h5)
    | (apply y_store rfl rfl rfl
       · conv => lhs; whnf
       · rfl
       · rfl
       · conv => lhs; whnf; arg 1; whnf
       · conv => lhs; whnf; arg 1; whnf
       · exact ⟨by kernel_rfl, by kernel_rfl⟩
       · rfl)
    | (apply y_app rfl rfl
       · conv => lhs; whnf
       · first | exact elemValU | (conv => lhs; whnf; arg 1; whnf)
       · first | exact fun _ => rfl | (intro _; kernel_rfl)
       · conv => lhs; whnf
       · rfl
       · rfl
       · conv => lhs; whnf; arg 1; whnf
       · conv => lhs; whnf)
    | (apply y_lit0 rfl rfl
       · conv => lhs; whnf
       · first | exact elemValU | (conv => lhs; whnf; arg 1; whnf))
    | (apply y_lit1 rfl rfl
       · conv => lhs; whnf
       · first | exact elemValU | (conv => lhs; whnf; arg 1; whnf)
       · conv => lhs; whnf; arg 1; whnf
       · rfl
       · rfl)
    | (apply y_onlit rfl rfl
       · conv => lhs; whnf
       · first | exact elemValU | (conv => lhs; whnf; arg 1; whnf)
       · first | exact fun _ => rfl | (intro _; kernel_rfl)
       · conv => lhs; whnf
       · conv => lhs; whnf)
    | exact apartB_none
    | exact apartB_nil
    | exact all_nil
    | (show List.all _ _ = true; rfl)
    | (show apartB _ _ = true; rfl)
    | exact ([] : List Nat)
    | exact (1000000 : Nat)
    | (apply aw_cond_t
       · conv => lhs; whnf; arg 1; arg 1; whnf)
    | (apply aw_cond_f
       · conv => lhs; whnf; arg 1; arg 1; whnf)
    | (refine aw_cond (by conv => lhs; whnf) ?_ ?_ <;> intro hb)
    | refine aw_ret ?_
    | refine aw_exit ?_
    | refine k_seq_exit ?_
    | refine k_seq_ret ?_
    | refine k_block_ret ?_
    | refine k_block_hit rfl ?_
    | refine k_block_miss rfl ?_
    | refine k_scope_exit ?_
    | refine k_scope_ret ?_
    | refine k_loop_exit ?_
    | refine k_loop_ret ?_
    | refine k_end ?_
    | refine k_end_ret ?_
    | (refine ⟨_, by conv => lhs; whnf; arg 2; whnf, ?_⟩; conv => rhs; whnf)
    | exact trivial
    | intro hg)
      all_goals first
        | exact i64_in2 (by omega)
        | exact at31 hi
        | (refine ⟨by simp, ?_, ?_⟩ <;> simp only [List.length_cons, List.length_nil, maxLen, hpl] <;> omega)
        | skip
      have e1 := prV5_succ hi
      refine k_loop_next (j' := j - 1) (by omega) ⟨i + 1, by omega, Sub.live ⟨rfl, rfl, rfl, rfl, rfl, rfl, trivial⟩ ⟨rfl, rfl, ?_, ?_, trivial⟩⟩
      · rw [e1]; rfl
      · rw [e1, List.length_append]; rfl
    · have f0 : decide ((i : Int) < (l.length : Nat)) = false := decide_eq_false (by omega)
      have e1 := prV5_all (l := l) (i := i) (by omega)
      have h4 := object_ac E0 ⟨#[100, 97, 116, 97]⟩ ⟨#[101, 114, 114, 111, 114, 115]⟩ d (lstV5 (prV5 l i))
      repeat' (first
    | (apply g_valW (.agg (cellsV Tryz.prog 12 26 (lstV5 (prV5 l i)))) rfl rfl
       · conv => lhs; whnf; arg 2; whnf
       · repeat' (first | exact VLe.refl _ | exact VLe.nil _ | exact VLe.lit _ _ | exact VLe.own _ _ _ | apply VLe.agg | apply VLeL.cons | exact VLeL.nil))
    | (apply aw_drawGn 5 ([(0,[2]),(2,[5])]) ([(4,[4])]) rfl (by kernel_rfl) (by kernel_rfl) (by kernel_rfl))
    | apply g_nil
    | (apply g_val rfl
       · conv => lhs; whnf
       · conv => lhs; whnf; arg 2; whnf)
    | (apply g_call rfl
       · conv => lhs; whnf
       · conv => lhs; whnf
       · first | exact h1 | exact h4)
    | (apply g_app rfl rfl
       · conv => lhs; whnf
       · first | (conv => lhs; whnf; arg 1; whnf)
       · first | exact fun _ => rfl | (intro _; kernel_rfl)
       · conv => lhs; whnf
       · rfl
       · conv => lhs; whnf; arg 1; whnf
       · conv => lhs; whnf)
    | (apply g_store rfl rfl rfl
       · conv => lhs; whnf
       · rfl
       · conv => lhs; whnf; arg 1; whnf
       · conv => lhs; whnf; arg 1; whnf
       · exact ⟨by kernel_rfl, by kernel_rfl⟩
       · rfl)
    | (show inO _ _ = true; rfl)
    | (apply aw_cond_kt
       · conv => lhs; whnf
       · assumption)
    | (apply aw_cond_kf
       · conv => lhs; whnf
       · assumption)
    | refine k_cut_ret ?_
    | refine k_cut_exit ?_
    | refine k_cut ?_
    | refine aw_region ?_
    | refine awo_nil ?_
    | refine k_seq ?_
    | refine k_block ?_
    | refine k_scope ?_
    | (apply aw_1
       conv => whnf
       refine ⟨?_, trivial⟩)
    | (apply s_1
       conv => whnf; arg 1; arg 4; arg 3; whnf
       refine ⟨?_, ?_⟩)
    | (apply s_val rfl
       · conv => lhs; whnf
       · conv => lhs; whnf; arg 2; whnf)
    | (apply s_call rfl
       · conv => lhs; whnf
       · conv => lhs; whnf
       · first | exact h1 | exact h4)
    | (apply s_box rfl rfl rfl rfl
       · conv => lhs; whnf; arg 1; whnf
       · rfl)
    | (apply s_alloc rfl rfl rfl rfl
       · conv => lhs; whnf; arg 1; whnf
       · rfl)
    | (apply s_store rfl rfl rfl
       · conv => lhs; whnf
       · conv => lhs; whnf; arg 1; whnf
       · conv => lhs; whnf; arg 1; whnf
       · exact ⟨by kernel_rfl, by kernel_rfl⟩
       · rfl)
    | (apply s_app rfl rfl
       · conv => lhs; whnf
       · first | (conv => lhs; whnf; arg 1; whnf)
       · first | exact fun _ => rfl | (intro _; kernel_rfl)
       · conv => lhs; whnf
       · conv => lhs; whnf; arg 1; whnf
       · conv => lhs; whnf)
    | (apply s_app_nil rfl rfl rfl rfl
       · first | (conv => lhs; whnf; arg 1; whnf)
       · first | exact fun _ => rfl | (intro _; kernel_rfl)
       · conv => lhs; whnf
       · conv => lhs; whnf)
    | (apply s_lit0 rfl rfl
       · conv => lhs; whnf
       · first | (conv => lhs; whnf; arg 1; whnf))
    | (apply s_lit1 rfl rfl
       · conv => lhs; whnf
       · first | (conv => lhs; whnf; arg 1; whnf)
       · conv => lhs; whnf; arg 1; whnf
       · rfl
       · rfl)
    | (apply s_onlit rfl rfl
       · conv => lhs; whnf
       · first | (conv => lhs; whnf; arg 1; whnf)
       · first | exact fun _ => rfl | (intro _; kernel_rfl)
       · conv => lhs; whnf
       · conv => lhs; whnf)
    | (apply aw_draw (by kernel_rfl) (by kernel_rfl))
    | apply y_nil
    | (apply y_val rfl
       · conv => lhs; whnf
       · conv => lhs; whnf; arg 2; whnf)
    | (apply y_call rfl
       · conv => lhs; whnf
       · conv => lhs; whnf
       · first | exact h1 | exact h4)
    | (apply y_store rfl rfl rfl
       · conv => lhs; whnf
       · rfl
       · rfl
       · conv => lhs; whnf; arg 1; whnf
       · conv => lhs; whnf; arg 1; whnf
       · exact ⟨by kernel_rfl, by kernel_rfl⟩
       · rfl)
    | (apply y_app rfl rfl
       · conv => lhs; whnf
       · first | (conv => lhs; whnf; arg 1; whnf)
       · first | exact fun _ => rfl | (intro _; kernel_rfl)
       · conv => lhs; whnf
       · rfl
       · rfl
       · conv => lhs; whnf; arg 1; whnf
       · conv => lhs; whnf)
    | (apply y_lit0 rfl rfl
       · conv => lhs; whnf
       · first | (conv => lhs; whnf; arg 1; whnf))
    | (apply y_lit1 rfl rfl
       · conv => lhs; whnf
       · first | (conv => lhs; whnf; arg 1; whnf)
       · conv => lhs; whnf; arg 1; whnf
       · rfl
       · rfl)
    | (apply y_onlit rfl rfl
       · conv => lhs; whnf
       · first | (conv => lhs; whnf; arg 1; whnf)
       · first | exact fun _ => rfl | (intro _; kernel_rfl)
       · conv => lhs; whnf
       · conv => lhs; whnf)
    | exact apartB_none
    | exact apartB_nil
    | exact all_nil
    | (show List.all _ _ = true; rfl)
    | (show apartB _ _ = true; rfl)
    | exact ([] : List Nat)
    | exact (1000000 : Nat)
    | (apply aw_cond_t
       · conv => lhs; whnf; arg 1; arg 1; whnf)
    | (apply aw_cond_f
       · conv => lhs; whnf; arg 1; arg 1; whnf)
    | (refine aw_cond (by conv => lhs; whnf) ?_ ?_ <;> intro hb)
    | refine aw_ret ?_
    | refine aw_exit ?_
    | refine k_seq_exit ?_
    | refine k_seq_ret ?_
    | refine k_block_ret ?_
    | refine k_block_hit rfl ?_
    | refine k_block_miss rfl ?_
    | refine k_scope_exit ?_
    | refine k_scope_ret ?_
    | refine k_loop_exit ?_
    | refine k_loop_ret ?_
    | refine k_end ?_
    | refine k_end_ret ?_
    | (refine ⟨_, by conv => lhs; whnf; arg 2; whnf, ?_⟩; conv => rhs; whnf)
    | exact trivial
    | intro hg)
      all_goals (rw [e1]; rfl)
noncomputable def HRf (d : D) (l : List D) (i : Nat) : Vst 59 :=
  stS 59 [(1, .sl 35 l), (2, .bx 2 0), (4, .bx 4 0), (5, .bx 5 0), (6, .bx 6 0), (7, .c (.int .i64 (i : Int)))]
    [(2, .box 26 (cellsV Tryz.prog 12 26 d)), (4, .box 26 [.c (.int .i64 0), .c (.int .i64 0), .c (.string ⟨#[]⟩), .c (.slice none 0 0), .c (.slice none 0 0)]),
     (5, .box 26 [.c (.int .i64 6), .c (.int .i64 0), .c (.string ⟨#[]⟩), .lit 26 [d], .lit 9 [kData]]),
     (6, .box 26 [.c (.int .i64 5), .c (.int .i64 0), .c (.string ⟨#[]⟩), .own 900 26 (prV5 l i), .c (.slice none 0 0)]), (900, .tok 26 (prV5 l i).length)]
set_option maxHeartbeats 8000000 in
set_option maxRecDepth 100000 in
theorem respR_ac (E0 : Ge) (d : D) (l : List D) (hln : l.length ≤ 393216) : AC E0 Tryz.prog 19 [.agg (cellsV Tryz.prog 12 26 d), .sl 35 l] (.agg (cellsV Tryz.prog 12 26 (respD d l))) := by
  by_cases hl : l = []
  · have f1 : ((l.length : Int) == 0) = true := by rw [hl]; rfl
    have e : respD d l = objV5 [kData] [d] := by unfold respD; rw [if_pos hl]
    rw [e]
    refine ac_enter 59 Tryz.func19 rfl rfl rfl rfl ?_
    intro s w he
    repeat' (first
    | (apply s_lit [kData] rfl rfl
       · conv => lhs; whnf
       · first | exact elemStr5 | exact elemValU | (conv => lhs; whnf; arg 1; whnf)
       · rfl
       · rfl
       · repeat' (first | exact trivial | apply And.intro | rfl))
    | (apply s_lit [d] rfl rfl
       · conv => lhs; whnf
       · first | exact elemStr5 | exact elemValU | (conv => lhs; whnf; arg 1; whnf)
       · rfl
       · rfl
       · repeat' (first | exact trivial | apply And.intro | rfl))
    | (apply s_valW ((.agg (cellsV Tryz.prog 12 26 (objV5 [kData] [d])))) rfl rfl
       · conv => lhs; whnf; arg 2; whnf
       · repeat' (first | exact VLe.refl _ | exact VLe.nil _ | exact VLe.lit _ _ | exact VLe.own _ _ _ | apply VLe.agg | apply VLeL.cons | exact VLeL.nil))
    | (apply aw_cond_kt
       · conv => lhs; whnf
       · assumption)
    | (apply aw_cond_kf
       · conv => lhs; whnf
       · assumption)
    | refine k_cut_ret ?_
    | refine k_cut_exit ?_
    | refine k_cut ?_
    | refine aw_region ?_
    | refine awo_nil ?_
    | refine k_seq ?_
    | refine k_block ?_
    | refine k_scope ?_
    | (apply aw_1
       conv => whnf
       refine ⟨?_, trivial⟩)
    | (apply s_1
       conv => whnf; arg 1; arg 4; arg 3; whnf
       refine ⟨?_, ?_⟩)
    | (apply s_val rfl
       · conv => lhs; whnf
       · conv => lhs; whnf; arg 2; whnf)
    | (apply s_box rfl rfl rfl rfl
       · conv => lhs; whnf; arg 1; whnf
       · rfl)
    | (apply s_alloc rfl rfl rfl rfl
       · conv => lhs; whnf; arg 1; whnf
       · rfl)
    | (apply s_store rfl rfl rfl
       · conv => lhs; whnf
       · conv => lhs; whnf; arg 1; whnf
       · conv => lhs; whnf; arg 1; whnf
       · exact ⟨by kernel_rfl, by kernel_rfl⟩
       · rfl)
    | (apply s_app rfl rfl
       · conv => lhs; whnf
       · first | exact elemStr5 | exact elemValU | (conv => lhs; whnf; arg 1; whnf)
       · first | exact fun _ => rfl | (intro _; kernel_rfl)
       · conv => lhs; whnf
       · conv => lhs; whnf; arg 1; whnf
       · conv => lhs; whnf)
    | (apply s_app_nil rfl rfl rfl rfl
       · first | exact elemStr5 | exact elemValU | (conv => lhs; whnf; arg 1; whnf)
       · first | exact fun _ => rfl | (intro _; kernel_rfl)
       · conv => lhs; whnf
       · conv => lhs; whnf)
    | (apply s_lit0 rfl rfl
       · conv => lhs; whnf
       · first | exact elemStr5 | exact elemValU | (conv => lhs; whnf; arg 1; whnf))
    | (apply s_lit1 rfl rfl
       · conv => lhs; whnf
       · first | exact elemStr5 | exact elemValU | (conv => lhs; whnf; arg 1; whnf)
       · conv => lhs; whnf; arg 1; whnf
       · rfl
       · rfl)
    | (apply s_onlit rfl rfl
       · conv => lhs; whnf
       · first | exact elemStr5 | exact elemValU | (conv => lhs; whnf; arg 1; whnf)
       · first | exact fun _ => rfl | (intro _; kernel_rfl)
       · conv => lhs; whnf
       · conv => lhs; whnf)
    | (apply aw_cond_t
       · conv => lhs; whnf; arg 1; arg 1; whnf)
    | (apply aw_cond_f
       · conv => lhs; whnf; arg 1; arg 1; whnf)
    | (refine aw_cond (by conv => lhs; whnf) ?_ ?_ <;> intro hb)
    | refine aw_ret ?_
    | refine aw_exit ?_
    | refine k_seq_exit ?_
    | refine k_seq_ret ?_
    | refine k_block_ret ?_
    | refine k_block_hit rfl ?_
    | refine k_block_miss rfl ?_
    | refine k_scope_exit ?_
    | refine k_scope_ret ?_
    | refine k_loop_exit ?_
    | refine k_loop_ret ?_
    | refine k_end ?_
    | refine k_end_ret ?_
    | (refine ⟨_, by conv => lhs; whnf; arg 2; whnf, ?_⟩; conv => rhs; whnf)
    | exact trivial
    | intro hg)
    all_goals rfl
  · have hl0 : 0 < l.length := List.length_pos_iff.2 hl
    have f1 : ((l.length : Int) == 0) = false := by rw [beq_eq_false_iff_ne]; omega
    have e : respD d l = objV5 [kData, kErrors] [d, lstV5 (l.map probD)] := by unfold respD; rw [if_neg hl]
    rw [e]
    refine ac_enter 59 Tryz.func19 rfl rfl rfl rfl ?_
    intro s w he
    repeat' (first
    | (apply s_lit [kData] rfl rfl
       · conv => lhs; whnf
       · first | exact elemStr5 | exact elemValU | (conv => lhs; whnf; arg 1; whnf)
       · rfl
       · rfl
       · repeat' (first | exact trivial | apply And.intro | rfl))
    | (apply s_lit [d] rfl rfl
       · conv => lhs; whnf
       · first | exact elemStr5 | exact elemValU | (conv => lhs; whnf; arg 1; whnf)
       · rfl
       · rfl
       · repeat' (first | exact trivial | apply And.intro | rfl))
    | (apply aw_cond_kt
       · conv => lhs; whnf
       · assumption)
    | (apply aw_cond_kf
       · conv => lhs; whnf
       · assumption)
    | refine k_cut_ret ?_
    | refine k_cut_exit ?_
    | refine k_cut ?_
    | refine aw_region ?_
    | refine awo_nil ?_
    | refine k_seq ?_
    | refine k_block ?_
    | refine k_scope ?_
    | (apply aw_1
       conv => whnf
       refine ⟨?_, trivial⟩)
    | (apply s_1
       conv => whnf; arg 1; arg 4; arg 3; whnf
       refine ⟨?_, ?_⟩)
    | (apply s_val rfl
       · conv => lhs; whnf
       · conv => lhs; whnf; arg 2; whnf)
    | (apply s_box rfl rfl rfl rfl
       · conv => lhs; whnf; arg 1; whnf
       · rfl)
    | (apply s_alloc rfl rfl rfl rfl
       · conv => lhs; whnf; arg 1; whnf
       · rfl)
    | (apply s_store rfl rfl rfl
       · conv => lhs; whnf
       · conv => lhs; whnf; arg 1; whnf
       · conv => lhs; whnf; arg 1; whnf
       · exact ⟨by kernel_rfl, by kernel_rfl⟩
       · rfl)
    | (apply s_app rfl rfl
       · conv => lhs; whnf
       · first | exact elemStr5 | exact elemValU | (conv => lhs; whnf; arg 1; whnf)
       · first | exact fun _ => rfl | (intro _; kernel_rfl)
       · conv => lhs; whnf
       · conv => lhs; whnf; arg 1; whnf
       · conv => lhs; whnf)
    | (apply s_app_nil rfl rfl rfl rfl
       · first | exact elemStr5 | exact elemValU | (conv => lhs; whnf; arg 1; whnf)
       · first | exact fun _ => rfl | (intro _; kernel_rfl)
       · conv => lhs; whnf
       · conv => lhs; whnf)
    | (apply s_lit0 rfl rfl
       · conv => lhs; whnf
       · first | exact elemStr5 | exact elemValU | (conv => lhs; whnf; arg 1; whnf))
    | (apply s_lit1 rfl rfl
       · conv => lhs; whnf
       · first | exact elemStr5 | exact elemValU | (conv => lhs; whnf; arg 1; whnf)
       · conv => lhs; whnf; arg 1; whnf
       · rfl
       · rfl)
    | (apply s_onlit rfl rfl
       · conv => lhs; whnf
       · first | exact elemStr5 | exact elemValU | (conv => lhs; whnf; arg 1; whnf)
       · first | exact fun _ => rfl | (intro _; kernel_rfl)
       · conv => lhs; whnf
       · conv => lhs; whnf)
    | (apply aw_cond_t
       · conv => lhs; whnf; arg 1; arg 1; whnf)
    | (apply aw_cond_f
       · conv => lhs; whnf; arg 1; arg 1; whnf)
    | (refine aw_cond (by conv => lhs; whnf) ?_ ?_ <;> intro hb)
    | refine aw_ret ?_
    | refine aw_exit ?_
    | refine k_seq_exit ?_
    | refine k_seq_ret ?_
    | refine k_block_ret ?_
    | refine k_block_hit rfl ?_
    | refine k_block_miss rfl ?_
    | refine k_scope_exit ?_
    | refine k_scope_ret ?_
    | refine k_loop_exit ?_
    | refine k_loop_ret ?_
    | refine k_end ?_
    | refine k_end_ret ?_
    | (refine ⟨_, by conv => lhs; whnf; arg 2; whnf, ?_⟩; conv => rhs; whnf)
    | exact trivial
    | intro hg)
    refine aw_sub (Sub.ownF (m := 6) (q := 900) (i := 3) (e := 26) rfl (by decide) rfl rfl rfl) ?_
    refine aw_loop (fun j st => ∃ i, i + j = l.length ∧ Sub (cx E0 Tryz.prog s w he) st (HRf d l i)) l.length ⟨0, by omega, Sub.live ⟨rfl, rfl, rfl, rfl, rfl, rfl, trivial⟩ ⟨rfl, rfl, rfl, rfl, rfl, trivial⟩⟩ ?_
    rintro j st ⟨i, hij, hs2⟩
    refine aw_sub hs2 ?_
    clear hs2
    by_cases hi : i < l.length
    · have f0 : decide ((i : Int) < (l.length : Nat)) = true := decide_eq_true (by omega)
      have hpl := prV5_len (show i ≤ l.length by omega)
      repeat' (first
    | (apply s_lit [kMessage, kPath] rfl rfl
       · conv => lhs; whnf
       · first | exact elemStr5 | exact elemValU | (conv => lhs; whnf; arg 1; whnf)
       · rfl
       · rfl
       · repeat' (first | exact trivial | apply And.intro | rfl))
    | (apply s_lit [strV5 ((gD l i).f 1).s, lstV5 ((gD l i).f 0).l] rfl rfl
       · conv => lhs; whnf
       · first | exact elemStr5 | exact elemValU | (conv => lhs; whnf; arg 1; whnf)
       · rfl
       · rfl
       · repeat' (first | exact trivial | apply And.intro | rfl))
    | (apply s_lit [probD (gD l i)] rfl rfl
       · conv => lhs; whnf
       · first | exact elemStr5 | exact elemValU | (conv => lhs; whnf; arg 1; whnf)
       · rfl
       · rfl
       · repeat' (first | exact trivial | apply And.intro | rfl))
    | (apply s_valW ((.agg (cellsV Tryz.prog 12 26 (strV5 ((gD l i).f 1).s)))) rfl rfl
       · conv => lhs; whnf; arg 2; whnf
       · repeat' (first | exact VLe.refl _ | exact VLe.nil _ | exact VLe.lit _ _ | exact VLe.own _ _ _ | apply VLe.agg | apply VLeL.cons | exact VLeL.nil))
    | (apply s_valW ((.agg (cellsV Tryz.prog 12 26 (lstV5 ((gD l i).f 0).l)))) rfl rfl
       · conv => lhs; whnf; arg 2; whnf
       · repeat' (first | exact VLe.refl _ | exact VLe.nil _ | exact VLe.lit _ _ | exact VLe.own _ _ _ | apply VLe.agg | apply VLeL.cons | exact VLeL.nil))
    | (apply s_valW ((.agg (cellsV Tryz.prog 12 26 (probD (gD l i))))) rfl rfl
       · conv => lhs; whnf; arg 2; whnf
       · repeat' (first | exact VLe.refl _ | exact VLe.nil _ | exact VLe.lit _ _ | exact VLe.own _ _ _ | apply VLe.agg | apply VLeL.cons | exact VLeL.nil))
    | (apply aw_cond_kt
       · conv => lhs; whnf
       · assumption)
    | (apply aw_cond_kf
       · conv => lhs; whnf
       · assumption)
    | refine k_cut_ret ?_
    | refine k_cut_exit ?_
    | refine k_cut ?_
    | refine aw_region ?_
    | refine awo_nil ?_
    | refine k_seq ?_
    | refine k_block ?_
    | refine k_scope ?_
    | (apply aw_1
       conv => whnf
       refine ⟨?_, trivial⟩)
    | (apply s_1
       conv => whnf; arg 1; arg 4; arg 3; whnf
       refine ⟨?_, ?_⟩)
    | (apply s_val rfl
       · conv => lhs; whnf
       · conv => lhs; whnf; arg 2; whnf)
    | (apply s_box rfl rfl rfl rfl
       · conv => lhs; whnf; arg 1; whnf
       · rfl)
    | (apply s_alloc rfl rfl rfl rfl
       · conv => lhs; whnf; arg 1; whnf
       · rfl)
    | (apply s_store rfl rfl rfl
       · conv => lhs; whnf
       · conv => lhs; whnf; arg 1; whnf
       · conv => lhs; whnf; arg 1; whnf
       · exact ⟨by kernel_rfl, by kernel_rfl⟩
       · rfl)
    | (apply s_app rfl rfl
       · conv => lhs; whnf
       · first | exact elemStr5 | exact elemValU | (conv => lhs; whnf; arg 1; whnf)
       · first | exact fun _ => rfl | (intro _; kernel_rfl)
       · conv => lhs; whnf
       · conv => lhs; whnf; arg 1; whnf
       · conv => lhs; whnf)
    | (apply s_app_nil rfl rfl rfl rfl
       · first | exact elemStr5 | exact elemValU | (conv => lhs; whnf; arg 1; whnf)
       · first | exact fun _ => rfl | (intro _; kernel_rfl)
       · conv => lhs; whnf
       · conv => lhs; whnf)
    | (apply s_lit0 rfl rfl
       · conv => lhs; whnf
       · first | exact elemStr5 | exact elemValU | (conv => lhs; whnf; arg 1; whnf))
    | (apply s_lit1 rfl rfl
       · conv => lhs; whnf
       · first | exact elemStr5 | exact elemValU | (conv => lhs; whnf; arg 1; whnf)
       · conv => lhs; whnf; arg 1; whnf
       · rfl
       · rfl)
    | (apply s_onlit rfl rfl
       · conv => lhs; whnf
       · first | exact elemStr5 | exact elemValU | (conv => lhs; whnf; arg 1; whnf)
       · first | exact fun _ => rfl | (intro _; kernel_rfl)
       · conv => lhs; whnf
       · conv => lhs; whnf)
    | (apply aw_cond_t
       · conv => lhs; whnf; arg 1; arg 1; whnf)
    | (apply aw_cond_f
       · conv => lhs; whnf; arg 1; arg 1; whnf)
    | (refine aw_cond (by conv => lhs; whnf) ?_ ?_ <;> intro hb)
    | refine aw_ret ?_
    | refine aw_exit ?_
    | refine k_seq_exit ?_
    | refine k_seq_ret ?_
    | refine k_block_ret ?_
    | refine k_block_hit rfl ?_
    | refine k_block_miss rfl ?_
    | refine k_scope_exit ?_
    | refine k_scope_ret ?_
    | refine k_loop_exit ?_
    | refine k_loop_ret ?_
    | refine k_end ?_
    | refine k_end_ret ?_
    | (refine ⟨_, by conv => lhs; whnf; arg 2; whnf, ?_⟩; conv => rhs; whnf)
    | exact trivial
    | intro hg)
      all_goals first
        | exact i64_in2 (by omega)
        | exact at31 hi
        | (refine ⟨by simp, ?_, ?_⟩ <;> simp only [List.length_cons, List.length_nil, maxLen, hpl] <;> omega)
        | skip
      have e1 := prV5_succ hi
      refine k_loop_next (j' := j - 1) (by omega) ⟨i + 1, by omega, Sub.live ⟨rfl, rfl, rfl, rfl, rfl, rfl, trivial⟩ ⟨rfl, rfl, rfl, ?_, ?_, trivial⟩⟩
      · rw [e1]; rfl
      · rw [e1, List.length_append]; rfl
    · have f0 : decide ((i : Int) < (l.length : Nat)) = false := decide_eq_false (by omega)
      have e1 := prV5_all (l := l) (i := i) (by omega)
      repeat' (first
    | (apply s_lit [kErrors] rfl rfl
       · conv => lhs; whnf
       · first | exact elemStr5 | exact elemValU | (conv => lhs; whnf; arg 1; whnf)
       · rfl
       · rfl
       · repeat' (first | exact trivial | apply And.intro | rfl))
    | (apply s_lit [lstV5 (prV5 l i)] rfl rfl
       · conv => lhs; whnf
       · first | exact elemStr5 | exact elemValU | (conv => lhs; whnf; arg 1; whnf)
       · rfl
       · rfl
       · repeat' (first | exact trivial | apply And.intro | rfl))
    | (apply s_valW ((.agg (cellsV Tryz.prog 12 26 (lstV5 (prV5 l i))))) rfl rfl
       · conv => lhs; whnf; arg 2; whnf
       · repeat' (first | exact VLe.refl _ | exact VLe.nil _ | exact VLe.lit _ _ | exact VLe.own _ _ _ | apply VLe.agg | apply VLeL.cons | exact VLeL.nil))
    | (apply s_valW ((.agg (cellsV Tryz.prog 12 26 (objV5 [kData, kErrors] [d, lstV5 (prV5 l i)])))) rfl rfl
       · conv => lhs; whnf; arg 2; whnf
       · repeat' (first | exact VLe.refl _ | exact VLe.nil _ | exact VLe.lit _ _ | exact VLe.own _ _ _ | apply VLe.agg | apply VLeL.cons | exact VLeL.nil))
    | (apply aw_cond_kt
       · conv => lhs; whnf
       · assumption)
    | (apply aw_cond_kf
       · conv => lhs; whnf
       · assumption)
    | refine k_cut_ret ?_
    | refine k_cut_exit ?_
    | refine k_cut ?_
    | refine aw_region ?_
    | refine awo_nil ?_
    | refine k_seq ?_
    | refine k_block ?_
    | refine k_scope ?_
    | (apply aw_1
       conv => whnf
       refine ⟨?_, trivial⟩)
    | (apply s_1
       conv => whnf; arg 1; arg 4; arg 3; whnf
       refine ⟨?_, ?_⟩)
    | (apply s_val rfl
       · conv => lhs; whnf
       · conv => lhs; whnf; arg 2; whnf)
    | (apply s_box rfl rfl rfl rfl
       · conv => lhs; whnf; arg 1; whnf
       · rfl)
    | (apply s_alloc rfl rfl rfl rfl
       · conv => lhs; whnf; arg 1; whnf
       · rfl)
    | (apply s_store rfl rfl rfl
       · conv => lhs; whnf
       · conv => lhs; whnf; arg 1; whnf
       · conv => lhs; whnf; arg 1; whnf
       · exact ⟨by kernel_rfl, by kernel_rfl⟩
       · rfl)
    | (apply s_app rfl rfl
       · conv => lhs; whnf
       · first | exact elemStr5 | exact elemValU | (conv => lhs; whnf; arg 1; whnf)
       · first | exact fun _ => rfl | (intro _; kernel_rfl)
       · conv => lhs; whnf
       · conv => lhs; whnf; arg 1; whnf
       · conv => lhs; whnf)
    | (apply s_app_nil rfl rfl rfl rfl
       · first | exact elemStr5 | exact elemValU | (conv => lhs; whnf; arg 1; whnf)
       · first | exact fun _ => rfl | (intro _; kernel_rfl)
       · conv => lhs; whnf
       · conv => lhs; whnf)
    | (apply s_lit0 rfl rfl
       · conv => lhs; whnf
       · first | exact elemStr5 | exact elemValU | (conv => lhs; whnf; arg 1; whnf))
    | (apply s_lit1 rfl rfl
       · conv => lhs; whnf
       · first | exact elemStr5 | exact elemValU | (conv => lhs; whnf; arg 1; whnf)
       · conv => lhs; whnf; arg 1; whnf
       · rfl
       · rfl)
    | (apply s_onlit rfl rfl
       · conv => lhs; whnf
       · first | exact elemStr5 | exact elemValU | (conv => lhs; whnf; arg 1; whnf)
       · first | exact fun _ => rfl | (intro _; kernel_rfl)
       · conv => lhs; whnf
       · conv => lhs; whnf)
    | (apply aw_cond_t
       · conv => lhs; whnf; arg 1; arg 1; whnf)
    | (apply aw_cond_f
       · conv => lhs; whnf; arg 1; arg 1; whnf)
    | (refine aw_cond (by conv => lhs; whnf) ?_ ?_ <;> intro hb)
    | refine aw_ret ?_
    | refine aw_exit ?_
    | refine k_seq_exit ?_
    | refine k_seq_ret ?_
    | refine k_block_ret ?_
    | refine k_block_hit rfl ?_
    | refine k_block_miss rfl ?_
    | refine k_scope_exit ?_
    | refine k_scope_ret ?_
    | refine k_loop_exit ?_
    | refine k_loop_ret ?_
    | refine k_end ?_
    | refine k_end_ret ?_
    | (refine ⟨_, by conv => lhs; whnf; arg 2; whnf, ?_⟩; conv => rhs; whnf)
    | exact trivial
    | intro hg)
      all_goals first
        | (rw [e1]; rfl)
        | (refine ⟨?_, ?_⟩ <;> simp only [List.length_cons, List.length_nil, maxLen] <;> omega)
        | (refine ⟨by simp, ?_, ?_⟩ <;> simp only [List.length_cons, List.length_nil, maxLen] <;> omega)
        | skip
end Go.Proofs.YtdklhkdlndlgnaaGreatDoor
namespace Go.Proofs.YtdklhkdlndlgnaaGreatDoor
open Go.RowKit
attribute [local irreducible] wpList Calls Code.wp
/-- a hint's header -/
def headU (n : Int) (p : Bool) : List UInt8 :=
  if n < 1 then [110, 111, 45, 115, 116, 111, 114, 101] else [109, 97, 120, 45, 97, 103, 101, 61] ++ Lib.itoa n ++ (if p = true then [44, 32, 112, 114, 105, 118, 97, 116, 101] else [44, 32, 112, 117, 98, 108, 105, 99])
set_option maxRecDepth 100000 in
set_option maxHeartbeats 2000000 in
theorem headerP (n : Int) (p : Bool) (w : World) (he : Env w) (h0 : -9223372036854775808 ≤ n) (h1 : n ≤ 9223372036854775807) : Calls Tryz.prog 16 #[.agg #[.int .i64 n, .bool p]] w (St (headU n p) w) := by
  have HE := Lib.hid he
  clear he
  by_cases hn : n < 1
  · have Hh := Lib.hid (show bs (headU n p) = ⟨#[110, 111, 45, 115, 116, 111, 114, 101]⟩ by unfold headU; rw [if_pos hn]; rfl)
    have q : decide (n < 1) = true := decide_eq_true hn
    go_enter Tryz.func16, Tryz.ntmps16
    go_wp2
    go_ret
    exact ⟨by rw [Hh.out]; rfl, (Below.refl _ _).alloc (Nat.le_refl _) _⟩
  · have q : decide (n < 1) = false := decide_eq_false hn
    have HD := Lib.hid (fun w he => decimalP n h0 h1 w he)
    have hz := itoa_sizeM n h0 h1
    have Hh := Lib.hid (show bs (headU n p) = bs [109, 97, 120, 45, 97, 103, 101, 61] ++ bs (Lib.itoa n) ++ bs (if p = true then [44, 32, 112, 114, 105, 118, 97, 116, 101] else [44, 32, 112, 117, 98, 108, 105, 99]) by
      unfold headU; rw [if_neg hn, bs_append, bs_append])
    unfold St at HD
    generalize bs (Lib.itoa n) = t at *
    have hb : Below w.heap.size w (w.alloc (.cells #[.int .i64 n, .bool p] 29)) := (Below.refl _ _).alloc (Nat.le_refl _) _
    have Hb := Lib.hid hb
    clear hb
    cases p
    all_goals
      go_enter Tryz.func16, Tryz.ntmps16
      go_wp2_with fail
      refine (HD.out _ (HE.out.below Hb.out)).mono ?_
      rintro e w2 ⟨rfl, b⟩
      have B2 := Lib.hid (Hb.out.trans (b.mono Hb.out.size)); clear b
      go_wp2
      go_ret
      exact ⟨by rw [Hh.out]; rfl, B2.out⟩
set_option maxRecDepth 100000 in
set_option maxHeartbeats 2000000 in
theorem headerR (n : Int) (p : Bool) (w : World) (h0 : -9223372036854775808 ≤ n) (h1 : n ≤ 9223372036854775807) : Calls Tryz.prog 20 #[.agg #[.int .i64 n, .bool p]] w (St (headU n p) w) := by
  by_cases hn : n < 1
  · have Hh := Lib.hid (show bs (headU n p) = ⟨#[110, 111, 45, 115, 116, 111, 114, 101]⟩ by unfold headU; rw [if_pos hn]; rfl)
    have q : decide (n < 1) = true := decide_eq_true hn
    go_enter Tryz.func20, Tryz.ntmps20
    go_wp2
    go_ret
    exact ⟨by rw [Hh.out]; rfl, (Below.refl _ _).alloc (Nat.le_refl _) _⟩
  · have q : decide (n < 1) = false := decide_eq_false hn
    have HD := Lib.hid (fun w => decimalR n h0 h1 w)
    have hz := itoa_sizeM n h0 h1
    have Hh := Lib.hid (show bs (headU n p) = bs [109, 97, 120, 45, 97, 103, 101, 61] ++ bs (Lib.itoa n) ++ bs (if p = true then [44, 32, 112, 114, 105, 118, 97, 116, 101] else [44, 32, 112, 117, 98, 108, 105, 99]) by
      unfold headU; rw [if_neg hn, bs_append, bs_append])
    unfold St at HD
    generalize bs (Lib.itoa n) = t at *
    have hb : Below w.heap.size w (w.alloc (.cells #[.int .i64 n, .bool p] 29)) := (Below.refl _ _).alloc (Nat.le_refl _) _
    have Hb := Lib.hid hb
    clear hb
    cases p
    all_goals
      go_enter Tryz.func20, Tryz.ntmps20
      go_wp2_with fail
      refine (HD.out _).mono ?_
      rintro e w2 ⟨rfl, b⟩
      have B2 := Lib.hid (Hb.out.trans (b.mono Hb.out.size)); clear b
      go_wp2
      go_ret
      exact ⟨by rw [Hh.out]; rfl, B2.out⟩
end Go.Proofs.YtdklhkdlndlgnaaGreatDoor
namespace Go.Proofs.YtdklhkdlndlgnaaGreatDoor
open Go.RowKit
set_option linter.unusedSectionVars false
set_option maxHeartbeats 8000000 in
set_option maxRecDepth 100000 in
theorem RepK.respC {k : Nat} {r : D} (h : RepK k r) : RespC k (r.f 1) (r.f 2).l := by
  have hw := h.wt
  refine ⟨cpV_of h.data.1 (by omega), h.len, fun i hi => ?_⟩
  obtain ⟨h1, h2, -⟩ := path_wt (h.path i hi) (h.prob hi)
  exact ⟨h1, fun j hj => cpV_of (h.path i hi j hj).1 (by have := h2 j hj; omega)⟩
set_option maxHeartbeats 8000000 in
set_option maxRecDepth 100000 in
theorem headS5_len (n : Int) (p : Bool) (h0 : -9223372036854775808 ≤ n) (h1 : n ≤ 9223372036854775807) : (headS5 n p).length ≤ 40 := by
  have h := itoa_sizeM n h0 h1
  rw [bs_size] at h
  unfold headS5
  split
  · simp
  · simp only [List.length_append, List.length_cons, List.length_nil]
    split <;> simp only [List.length_cons, List.length_nil] <;> omega
set_option maxHeartbeats 8000000 in
set_option maxRecDepth 100000 in
theorem agg2_arg {s : Sg} {w : World} {n : Int} {p : Bool} {us : Array Value} (h : relL Tryz.prog s w [.agg [.c (.int .i64 n), .c (.bool p)]] us.toList) : us = #[.agg #[.int .i64 n, .bool p]] ∧ R64 n := by
  obtain ⟨u, rfl, hu⟩ := rel_one h
  rw [rel] at hu
  obtain ⟨cs, rfl, h2⟩ := hu
  have hl := h2.length
  match hc : cs.toList, hl with
  | [a, b], _ =>
    rw [hc] at h2
    simp only [relL, rel] at h2
    obtain ⟨⟨rfl, h3⟩, ⟨rfl, -⟩, -⟩ := h2
    have h3 : (Lit.int .i64 n).wf = true := h3
    rw [wf_int] at h3
    have e : cs = #[.int .i64 n, .bool p] := by apply Array.ext'; exact hc
    exact ⟨by rw [e], h3⟩
set_option maxHeartbeats 8000000 in
set_option maxRecDepth 100000 in
theorem headP5_ac (n : Int) (p : Bool) (h0 : -9223372036854775808 ≤ n) (h1 : n ≤ 9223372036854775807) : AC EN5 Tryz.prog 16 [.agg [.c (.int .i64 n), .c (.bool p)]] (.c (.string (bs (headS5 n p)))) := by
  refine ac_of5 (u := .string (bs (headS5 n p))) fun σ w us hus he => ?_
  obtain ⟨rfl, -⟩ := agg2_arg hus
  exact ⟨fun s' w' => rel_str (by have := headS5_len n p h0 h1; rw [bs_size]; unfold maxLen; omega), headerP n p w he h0 h1⟩
set_option maxHeartbeats 8000000 in
set_option maxRecDepth 100000 in
theorem headR5_ac (n : Int) (p : Bool) (h0 : -9223372036854775808 ≤ n) (h1 : n ≤ 9223372036854775807) : AC EN5 Tryz.prog 20 [.agg [.c (.int .i64 n), .c (.bool p)]] (.c (.string (bs (headS5 n p)))) := by
  refine ac_of5 (u := .string (bs (headS5 n p))) fun σ w us hus he => ?_
  obtain ⟨rfl, -⟩ := agg2_arg hus
  exact ⟨fun s' w' => rel_str (by have := headS5_len n p h0 h1; rw [bs_size]; unfold maxLen; omega), headerR n p w h0 h1⟩
def errE5 (k : Nat) (d : D) : Int := if okJ k d = true then 0 else 9
set_option maxHeartbeats 8000000 in
set_option maxRecDepth 100000 in
theorem printV_5 (k : Nat) (d : D) : printV k d = .tup [.c (.string (bs (jsonS5 k d))), .c (.int .i64 (errE5 k d))] := by
  unfold printV jsonS5 errE5
  split <;> rfl
set_option maxHeartbeats 8000000 in
set_option maxRecDepth 100000 in
theorem jsonS5_len {k : Nat} {d : D} (h : VK k d) (hw : wtJ k d ≤ 8388608) : (jsonS5 k d).length ≤ 300000000 := by
  unfold jsonS5
  split
  · rename_i ho
    have h1 := prP_len h.1 h.2
    rw [(prP_ok k d).2 ho] at h1
    omega
  · simp
set_option maxHeartbeats 8000000 in
set_option maxRecDepth 100000 in
theorem bodyS5_no {k : Nat} {r : D} (h : ((r.f 1).f 0).n = 0) (h2 : (r.f 2).l = []) : bodyS5 k r = [111, 107] := by unfold bodyS5; rw [if_pos ⟨h, h2⟩]
set_option maxHeartbeats 8000000 in
set_option maxRecDepth 100000 in
theorem bodyS5_yes {k : Nat} {r : D} (h : ¬ (((r.f 1).f 0).n = 0 ∧ (r.f 2).l = [])) : bodyS5 k r = [111, 107] ++ ([32] ++ jsonS5 (k + 4) (respD (r.f 1) (r.f 2).l)) := by unfold bodyS5; rw [if_neg h, List.append_assoc]
set_option maxHeartbeats 8000000 in
set_option maxRecDepth 100000 in
theorem lineS5_err {k : Nat} {r : D} (h : ¬ (r.f 0).n = 0) : lineS5 k r = [101, 114, 114, 111, 114, 32] ++ Lib.itoa (r.f 0).n := by unfold lineS5; rw [if_neg h]
set_option maxHeartbeats 8000000 in
set_option maxRecDepth 100000 in
theorem lineS5_hint {k : Nat} {r : D} (h : (r.f 0).n = 0) (h2 : 0 < ((r.f 3).f 0).n) : lineS5 k r = bodyS5 k r ++ ([32, 104, 105, 110, 116, 32] ++ headS5 ((r.f 3).f 0).n ((r.f 3).f 1).b) := by unfold lineS5; rw [if_pos h, if_pos h2]
set_option maxHeartbeats 8000000 in
set_option maxRecDepth 100000 in
theorem lineS5_no {k : Nat} {r : D} (h : (r.f 0).n = 0) (h2 : ¬ 0 < ((r.f 3).f 0).n) : lineS5 k r = bodyS5 k r := by unfold lineS5; rw [if_pos h, if_neg h2, List.append_nil]
set_option maxHeartbeats 8000000 in
set_option maxRecDepth 100000 in
theorem lit_bs5 (a : Array UInt8) : (⟨a⟩ : ByteArray) = bs a.toList := by unfold bs; simp
set_option maxHeartbeats 8000000 in
set_option maxRecDepth 100000 in
theorem lit_size5 (a : Array UInt8) : (⟨a⟩ : ByteArray).size = a.size := rfl
set_option maxHeartbeats 8000000 in
set_option maxRecDepth 100000 in
theorem str5 {l : List UInt8} {x : ByteArray} (h : bs l = x) : V.c (.string (bs l)) = V.c (.string x) := by rw [h]
attribute [local irreducible] wpList Calls Code.wp AW AWo OpOk seqK blockK scopeK loopK endK AC absLex Yld Sub
attribute [local irreducible] ACB ACX absLexG YldG absLexH
set_option maxHeartbeats 8000000 in
set_option maxRecDepth 100000 in
theorem lineP5_ac (k : Nat) (r : D) (h : RepK k r) : AC EN5 Tryz.prog 6 [.agg (cellsV Tryz.prog 12 31 r)] (.c (.string (bs (lineS5 k r)))) := by
  have hd := decimalP_ac (r.f 0).n
  have hr := respP_ac EN5 k (r.f 1) (r.f 2).l h.respC
  have hv := respD_vk h
  have hw := respD_wt h
  have hp := print_ac (k + 4) (respD (r.f 1) (r.f 2).l) hv.1 hv.2 hw
  rw [printV_5] at hp
  have hh := headP5_ac ((r.f 3).f 0).n ((r.f 3).f 1).b h.age.1 h.age.2
  have hj := jsonS5_len hv hw
  have hi := itoa_sizeM (r.f 0).n h.err.1 h.err.2
  have hhl := headS5_len ((r.f 3).f 0).n ((r.f 3).f 1).b h.age.1 h.age.2
  by_cases h0 : (r.f 0).n = 0
  · have f0 : ((r.f 0).n != 0) = false := by rw [h0]; rfl
    by_cases h1 : ((r.f 1).f 0).n = 0 <;> by_cases h2 : (r.f 2).l = [] <;> by_cases h3 : 0 < ((r.f 3).f 0).n
    all_goals
      first
        | (have f1 : (((r.f 1).f 0).n != 0) = false := by rw [h1]; rfl
           have g1 : ((((r.f 1).f 0).n != 0) == false) = true := by rw [f1]; rfl)
        | (have f1 : (((r.f 1).f 0).n != 0) = true := by simpa using h1
           have g1 : ((((r.f 1).f 0).n != 0) == false) = false := by rw [f1]; rfl)
      first
        | (have f2 : decide (((r.f 2).l.length : Int) > 0) = false := by rw [h2]; rfl)
        | (have f2 : decide (((r.f 2).l.length : Int) > 0) = true := decide_eq_true (by have := List.length_pos_iff.2 h2; omega))
      first
        | (have f3 : decide (((r.f 3).f 0).n > 0) = true := decide_eq_true h3)
        | (have f3 : decide (((r.f 3).f 0).n > 0) = false := decide_eq_false h3)
      first
        | rw [lineS5_hint h0 h3]
        | rw [lineS5_no h0 h3]
      first
        | rw [bodyS5_no h1 h2]
        | rw [bodyS5_yes (by rintro ⟨g1, g2⟩; first | exact h1 g1 | exact h2 g2)]
      refine ac_enter 47 Tryz.func6 rfl rfl rfl rfl ?_
      intro s w he
      repeat' (first
    | (apply s_wanted_pick_t rfl rfl rfl
       · conv => lhs; whnf
       · first | rfl | assumption
       · conv => lhs; whnf
       · first | exact bT1 (by assumption) | exact bT2 (by assumption) | rfl)
    | (apply s_wpick_t rfl rfl rfl
       · conv => lhs; whnf
       · first | rfl | assumption
       · conv => lhs; whnf
       · first | exact bT1 (by assumption) | exact bT2 (by assumption) | rfl)
    | (apply s_wanted_pick_f rfl rfl rfl
       · conv => lhs; whnf
       · first | rfl | assumption
       · conv => lhs; whnf
       · first | exact bF1 (by assumption) | exact bF2 (by assumption) | rfl)
    | (apply s_wpick_f rfl rfl rfl
       · conv => lhs; whnf
       · first | rfl | assumption
       · conv => lhs; whnf
       · first | exact bF1 (by assumption) | exact bF2 (by assumption) | rfl)
    | (apply aw_cond_kt
       · conv => lhs; whnf
       · assumption)
    | (apply aw_cond_kf
       · conv => lhs; whnf
       · assumption)
    | refine k_cut_ret ?_
    | refine k_cut_exit ?_
    | refine k_cut ?_
    | refine aw_region ?_
    | refine awo_nil ?_
    | refine k_seq ?_
    | refine k_block ?_
    | refine k_scope ?_
    | (apply aw_1
       conv => whnf
       refine ⟨?_, trivial⟩)
    | (apply s_pick_t rfl rfl
       · conv => lhs; whnf
       · conv => lhs; whnf
       · first | exact bT1 (by assumption) | exact bT2 (by assumption))
    | (apply s_pick_f rfl rfl
       · conv => lhs; whnf
       · conv => lhs; whnf
       · first | exact bF1 (by assumption) | exact bF2 (by assumption))
    | (apply s_1
       conv => whnf; arg 1; arg 4; arg 3; whnf
       refine ⟨?_, ?_⟩)
    | (apply s_val rfl
       · conv => lhs; whnf
       · conv => lhs; whnf; arg 2; whnf)
    | (apply s_call rfl
       · conv => lhs; whnf
       · conv => lhs; whnf
       · first | exact hd | exact hr | exact hp | exact hh)
    | (apply s_box rfl rfl rfl rfl
       · conv => lhs; whnf; arg 1; whnf
       · rfl)
    | (apply s_wanted_val rfl
       · conv => lhs; whnf
       · conv => lhs; whnf
       · first | rfl | assumption
       · conv => lhs; whnf; arg 2; whnf)
    | (apply s_wanted_call rfl
       · conv => lhs; whnf
       · conv => lhs; whnf
       · first | rfl | assumption
       · conv => lhs; whnf
       · first | exact hd | exact hr | exact hp | exact hh)
    | (apply s_skipU rfl
       · conv => lhs; whnf
       · conv => lhs; whnf
       · first | rfl | assumption)
    | (apply s_dead rfl
       · conv => lhs; whnf
       · rfl
       · rfl)
    | (apply s_guard_valU rfl
       · conv => lhs; whnf
       · conv => lhs; whnf
       · conv => lhs; whnf; arg 2; whnf)
    | (apply s_guard_callU rfl
       · conv => lhs; whnf
       · conv => lhs; whnf
       · conv => lhs; whnf
       · first | exact hd | exact hr | exact hp | exact hh)
    | (apply s_guard_val rfl
       · conv => lhs; whnf
       · conv => lhs; whnf
       · conv => lhs; whnf; arg 2; whnf)
    | (apply s_guard_call rfl
       · conv => lhs; whnf
       · conv => lhs; whnf
       · conv => lhs; whnf
       · first | exact hd | exact hr | exact hp | exact hh)
    | (apply aw_cond_t
       · conv => lhs; whnf; arg 1; arg 1; whnf)
    | (apply aw_cond_f
       · conv => lhs; whnf; arg 1; arg 1; whnf)
    | (refine aw_cond (by conv => lhs; whnf) ?_ ?_ <;> intro hb)
    | refine aw_ret ?_
    | refine aw_exit ?_
    | refine k_seq_exit ?_
    | refine k_seq_ret ?_
    | refine k_block_ret ?_
    | refine k_block_hit rfl ?_
    | refine k_block_miss rfl ?_
    | refine k_scope_exit ?_
    | refine k_scope_ret ?_
    | refine k_loop_exit ?_
    | refine k_loop_ret ?_
    | refine k_end ?_
    | refine k_end_ret ?_
    | (refine ⟨_, by conv => lhs; whnf; arg 2; whnf, ?_⟩; conv => rhs; whnf)
    | exact trivial
    | intro hg)
      all_goals first
        | (simp only [ByteArray.size_append, bs_size, lit_size5, List.size_toArray, List.length_append, List.length_cons, List.length_nil, maxLen, Nat.reduceAdd]; omega)
        | (refine str5 ?_; rw [lit_bs5]; done)
        | (refine str5 ?_; simp only [lit_bs5, ← bs_append]; done)
        | skip
  · have f0 : ((r.f 0).n != 0) = true := by simpa using h0
    rw [lineS5_err h0]
    refine ac_enter 47 Tryz.func6 rfl rfl rfl rfl ?_
    intro s w he
    repeat' (first
    | (apply s_wanted_pick_t rfl rfl rfl
       · conv => lhs; whnf
       · first | rfl | assumption
       · conv => lhs; whnf
       · first | exact bT1 (by assumption) | exact bT2 (by assumption) | rfl)
    | (apply s_wpick_t rfl rfl rfl
       · conv => lhs; whnf
       · first | rfl | assumption
       · conv => lhs; whnf
       · first | exact bT1 (by assumption) | exact bT2 (by assumption) | rfl)
    | (apply s_wanted_pick_f rfl rfl rfl
       · conv => lhs; whnf
       · first | rfl | assumption
       · conv => lhs; whnf
       · first | exact bF1 (by assumption) | exact bF2 (by assumption) | rfl)
    | (apply s_wpick_f rfl rfl rfl
       · conv => lhs; whnf
       · first | rfl | assumption
       · conv => lhs; whnf
       · first | exact bF1 (by assumption) | exact bF2 (by assumption) | rfl)
    | (apply aw_cond_kt
       · conv => lhs; whnf
       · assumption)
    | (apply aw_cond_kf
       · conv => lhs; whnf
       · assumption)
    | refine k_cut_ret ?_
    | refine k_cut_exit ?_
    | refine k_cut ?_
    | refine aw_region ?_
    | refine awo_nil ?_
    | refine k_seq ?_
    | refine k_block ?_
    | refine k_scope ?_
    | (apply aw_1
       conv => whnf
       refine ⟨?_, trivial⟩)
    | (apply s_pick_t rfl rfl
       · conv => lhs; whnf
       · conv => lhs; whnf
       · first | exact bT1 (by assumption) | exact bT2 (by assumption))
    | (apply s_pick_f rfl rfl
       · conv => lhs; whnf
       · conv => lhs; whnf
       · first | exact bF1 (by assumption) | exact bF2 (by assumption))
    | (apply s_1
       conv => whnf; arg 1; arg 4; arg 3; whnf
       refine ⟨?_, ?_⟩)
    | (apply s_val rfl
       · conv => lhs; whnf
       · conv => lhs; whnf; arg 2; whnf)
    | (apply s_call rfl
       · conv => lhs; whnf
       · conv => lhs; whnf
       · first | exact hd)
    | (apply s_box rfl rfl rfl rfl
       · conv => lhs; whnf; arg 1; whnf
       · rfl)
    | (apply s_wanted_val rfl
       · conv => lhs; whnf
       · conv => lhs; whnf
       · first | rfl | assumption
       · conv => lhs; whnf; arg 2; whnf)
    | (apply s_wanted_call rfl
       · conv => lhs; whnf
       · conv => lhs; whnf
       · first | rfl | assumption
       · conv => lhs; whnf
       · first | exact hd)
    | (apply s_skipU rfl
       · conv => lhs; whnf
       · conv => lhs; whnf
       · first | rfl | assumption)
    | (apply s_dead rfl
       · conv => lhs; whnf
       · rfl
       · rfl)
    | (apply s_guard_valU rfl
       · conv => lhs; whnf
       · conv => lhs; whnf
       · conv => lhs; whnf; arg 2; whnf)
    | (apply s_guard_callU rfl
       · conv => lhs; whnf
       · conv => lhs; whnf
       · conv => lhs; whnf
       · first | exact hd)
    | (apply s_guard_val rfl
       · conv => lhs; whnf
       · conv => lhs; whnf
       · conv => lhs; whnf; arg 2; whnf)
    | (apply s_guard_call rfl
       · conv => lhs; whnf
       · conv => lhs; whnf
       · conv => lhs; whnf
       · first | exact hd)
    | (apply aw_cond_t
       · conv => lhs; whnf; arg 1; arg 1; whnf)
    | (apply aw_cond_f
       · conv => lhs; whnf; arg 1; arg 1; whnf)
    | (refine aw_cond (by conv => lhs; whnf) ?_ ?_ <;> intro hb)
    | refine aw_ret ?_
    | refine aw_exit ?_
    | refine k_seq_exit ?_
    | refine k_seq_ret ?_
    | refine k_block_ret ?_
    | refine k_block_hit rfl ?_
    | refine k_block_miss rfl ?_
    | refine k_scope_exit ?_
    | refine k_scope_ret ?_
    | refine k_loop_exit ?_
    | refine k_loop_ret ?_
    | refine k_end ?_
    | refine k_end_ret ?_
    | (refine ⟨_, by conv => lhs; whnf; arg 2; whnf, ?_⟩; conv => rhs; whnf)
    | exact trivial
    | intro hg)
    all_goals first
      | (refine str5 ?_; rw [lit_bs5]; done)
      | (refine str5 ?_; simp only [lit_bs5, ← bs_append]; done)
      | (simp only [bs_size] at hi; simp only [ByteArray.size_append, bs_size, lit_size5, List.size_toArray, List.length_cons, List.length_nil, maxLen, Nat.reduceAdd]; omega)
      | skip
end Go.Proofs.YtdklhkdlndlgnaaGreatDoor
namespace Go.Proofs.YtdklhkdlndlgnaaGreatDoor
open Go.RowKit
set_option linter.unusedSectionVars false
attribute [local irreducible] wpList Calls Code.wp AW AWo OpOk seqK blockK scopeK loopK endK AC absLex Yld Sub
attribute [local irreducible] ACB ACX absLexG YldG absLexH
set_option maxHeartbeats 8000000 in
set_option maxRecDepth 100000 in
theorem lineR5_ac (k : Nat) (r : D) (h : RepK k r) : AC EN5 Tryz.prog 7 [.agg (cellsV Tryz.prog 12 31 r)] (.c (.string (bs (lineS5 k r)))) := by
  have hd := decimalR_ac (r.f 0).n
  have hr := respR_ac EN5 (r.f 1) (r.f 2).l h.len
  have hv := respD_vk h
  have hw := respD_wt h
  have hp := printR_ac (k + 4) (respD (r.f 1) (r.f 2).l) hv.1 hv.2 hw
  rw [printV_5] at hp
  have hh := headR5_ac ((r.f 3).f 0).n ((r.f 3).f 1).b h.age.1 h.age.2
  have hj := jsonS5_len hv hw
  have hi := itoa_sizeM (r.f 0).n h.err.1 h.err.2
  have hhl := headS5_len ((r.f 3).f 0).n ((r.f 3).f 1).b h.age.1 h.age.2
  by_cases h0 : (r.f 0).n = 0
  · have f0 : ((r.f 0).n != 0) = false := by rw [h0]; rfl
    by_cases h1 : ((r.f 1).f 0).n = 0 <;> by_cases h2 : (r.f 2).l = [] <;> by_cases h3 : 0 < ((r.f 3).f 0).n
    all_goals
      first
        | (have f1 : (((r.f 1).f 0).n != 0) = false := by rw [h1]; rfl
           have g1 : ((((r.f 1).f 0).n != 0) == false) = true := by rw [f1]; rfl)
        | (have f1 : (((r.f 1).f 0).n != 0) = true := by simpa using h1
           have g1 : ((((r.f 1).f 0).n != 0) == false) = false := by rw [f1]; rfl)
      first
        | (have f2 : decide (((r.f 2).l.length : Int) > 0) = false := by rw [h2]; rfl)
        | (have f2 : decide (((r.f 2).l.length : Int) > 0) = true := decide_eq_true (by have := List.length_pos_iff.2 h2; omega))
      first
        | (have f3 : decide (((r.f 3).f 0).n > 0) = true := decide_eq_true h3)
        | (have f3 : decide (((r.f 3).f 0).n > 0) = false := decide_eq_false h3)
      first
        | rw [lineS5_hint h0 h3]
        | rw [lineS5_no h0 h3]
      first
        | rw [bodyS5_no h1 h2]
        | rw [bodyS5_yes (by rintro ⟨g1, g2⟩; first | exact h1 g1 | exact h2 g2)]
      refine ac_enter 47 Tryz.func7 rfl rfl rfl rfl ?_
      intro s w he
      repeat' (first
    | (apply s_wanted_pick_t rfl rfl rfl
       · conv => lhs; whnf
       · first | rfl | assumption
       · conv => lhs; whnf
       · first | exact bT1 (by assumption) | exact bT2 (by assumption) | rfl)
    | (apply s_wpick_t rfl rfl rfl
       · conv => lhs; whnf
       · first | rfl | assumption
       · conv => lhs; whnf
       · first | exact bT1 (by assumption) | exact bT2 (by assumption) | rfl)
    | (apply s_wanted_pick_f rfl rfl rfl
       · conv => lhs; whnf
       · first | rfl | assumption
       · conv => lhs; whnf
       · first | exact bF1 (by assumption) | exact bF2 (by assumption) | rfl)
    | (apply s_wpick_f rfl rfl rfl
       · conv => lhs; whnf
       · first | rfl | assumption
       · conv => lhs; whnf
       · first | exact bF1 (by assumption) | exact bF2 (by assumption) | rfl)
    | (apply aw_cond_kt
       · conv => lhs; whnf
       · assumption)
    | (apply aw_cond_kf
       · conv => lhs; whnf
       · assumption)
    | refine k_cut_ret ?_
    | refine k_cut_exit ?_
    | refine k_cut ?_
    | refine aw_region ?_
    | refine awo_nil ?_
    | refine k_seq ?_
    | refine k_block ?_
    | refine k_scope ?_
    | (apply aw_1
       conv => whnf
       refine ⟨?_, trivial⟩)
    | (apply s_pick_t rfl rfl
       · conv => lhs; whnf
       · conv => lhs; whnf
       · first | exact bT1 (by assumption) | exact bT2 (by assumption))
    | (apply s_pick_f rfl rfl
       · conv => lhs; whnf
       · conv => lhs; whnf
       · first | exact bF1 (by assumption) | exact bF2 (by assumption))
    | (apply s_1
       conv => whnf; arg 1; arg 4; arg 3; whnf
       refine ⟨?_, ?_⟩)
    | (apply s_val rfl
       · conv => lhs; whnf
       · conv => lhs; whnf; arg 2; whnf)
    | (apply s_call rfl
       · conv => lhs; whnf
       · conv => lhs; whnf
       · first | exact hd | exact hr | exact hp | exact hh)
    | (apply s_box rfl rfl rfl rfl
       · conv => lhs; whnf; arg 1; whnf
       · rfl)
    | (apply s_wanted_val rfl
       · conv => lhs; whnf
       · conv => lhs; whnf
       · first | rfl | assumption
       · conv => lhs; whnf; arg 2; whnf)
    | (apply s_wanted_call rfl
       · conv => lhs; whnf
       · conv => lhs; whnf
       · first | rfl | assumption
       · conv => lhs; whnf
       · first | exact hd | exact hr | exact hp | exact hh)
    | (apply s_skipU rfl
       · conv => lhs; whnf
       · conv => lhs; whnf
       · first | rfl | assumption)
    | (apply s_dead rfl
       · conv => lhs; whnf
       · rfl
       · rfl)
    | (apply s_guard_valU rfl
       · conv => lhs; whnf
       · conv => lhs; whnf
       · conv => lhs; whnf; arg 2; whnf)
    | (apply s_guard_callU rfl
       · conv => lhs; whnf
       · conv => lhs; whnf
       · conv => lhs; whnf
       · first | exact hd | exact hr | exact hp | exact hh)
    | (apply s_guard_val rfl
       · conv => lhs; whnf
       · conv => lhs; whnf
       · conv => lhs; whnf; arg 2; whnf)
    | (apply s_guard_call rfl
       · conv => lhs; whnf
       · conv => lhs; whnf
       · conv => lhs; whnf
       · first | exact hd | exact hr | exact hp | exact hh)
    | (apply aw_cond_t
       · conv => lhs; whnf; arg 1; arg 1; whnf)
    | (apply aw_cond_f
       · conv => lhs; whnf; arg 1; arg 1; whnf)
    | (refine aw_cond (by conv => lhs; whnf) ?_ ?_ <;> intro hb)
    | refine aw_ret ?_
    | refine aw_exit ?_
    | refine k_seq_exit ?_
    | refine k_seq_ret ?_
    | refine k_block_ret ?_
    | refine k_block_hit rfl ?_
    | refine k_block_miss rfl ?_
    | refine k_scope_exit ?_
    | refine k_scope_ret ?_
    | refine k_loop_exit ?_
    | refine k_loop_ret ?_
    | refine k_end ?_
    | refine k_end_ret ?_
    | (refine ⟨_, by conv => lhs; whnf; arg 2; whnf, ?_⟩; conv => rhs; whnf)
    | exact trivial
    | intro hg)
      all_goals first
        | (simp only [ByteArray.size_append, bs_size, lit_size5, List.size_toArray, List.length_append, List.length_cons, List.length_nil, maxLen, Nat.reduceAdd]; omega)
        | (refine str5 ?_; rw [lit_bs5]; done)
        | (refine str5 ?_; simp only [lit_bs5, ← bs_append, ByteArray.append_assoc]; done)
        | skip
  · have f0 : ((r.f 0).n != 0) = true := by simpa using h0
    rw [lineS5_err h0]
    refine ac_enter 47 Tryz.func7 rfl rfl rfl rfl ?_
    intro s w he
    repeat' (first
    | (apply s_wanted_pick_t rfl rfl rfl
       · conv => lhs; whnf
       · first | rfl | assumption
       · conv => lhs; whnf
       · first | exact bT1 (by assumption) | exact bT2 (by assumption) | rfl)
    | (apply s_wpick_t rfl rfl rfl
       · conv => lhs; whnf
       · first | rfl | assumption
       · conv => lhs; whnf
       · first | exact bT1 (by assumption) | exact bT2 (by assumption) | rfl)
    | (apply s_wanted_pick_f rfl rfl rfl
       · conv => lhs; whnf
       · first | rfl | assumption
       · conv => lhs; whnf
       · first | exact bF1 (by assumption) | exact bF2 (by assumption) | rfl)
    | (apply s_wpick_f rfl rfl rfl
       · conv => lhs; whnf
       · first | rfl | assumption
       · conv => lhs; whnf
       · first | exact bF1 (by assumption) | exact bF2 (by assumption) | rfl)
    | (apply aw_cond_kt
       · conv => lhs; whnf
       · assumption)
    | (apply aw_cond_kf
       · conv => lhs; whnf
       · assumption)
    | refine k_cut_ret ?_
    | refine k_cut_exit ?_
    | refine k_cut ?_
    | refine aw_region ?_
    | refine awo_nil ?_
    | refine k_seq ?_
    | refine k_block ?_
    | refine k_scope ?_
    | (apply aw_1
       conv => whnf
       refine ⟨?_, trivial⟩)
    | (apply s_pick_t rfl rfl
       · conv => lhs; whnf
       · conv => lhs; whnf
       · first | exact bT1 (by assumption) | exact bT2 (by assumption))
    | (apply s_pick_f rfl rfl
       · conv => lhs; whnf
       · conv => lhs; whnf
       · first | exact bF1 (by assumption) | exact bF2 (by assumption))
    | (apply s_1
       conv => whnf; arg 1; arg 4; arg 3; whnf
       refine ⟨?_, ?_⟩)
    | (apply s_val rfl
       · conv => lhs; whnf
       · conv => lhs; whnf; arg 2; whnf)
    | (apply s_call rfl
       · conv => lhs; whnf
       · conv => lhs; whnf
       · first | exact hd)
    | (apply s_box rfl rfl rfl rfl
       · conv => lhs; whnf; arg 1; whnf
       · rfl)
    | (apply s_wanted_val rfl
       · conv => lhs; whnf
       · conv => lhs; whnf
       · first | rfl | assumption
       · conv => lhs; whnf; arg 2; whnf)
    | (apply s_wanted_call rfl
       · conv => lhs; whnf
       · conv => lhs; whnf
       · first | rfl | assumption
       · conv => lhs; whnf
       · first | exact hd)
    | (apply s_skipU rfl
       · conv => lhs; whnf
       · conv => lhs; whnf
       · first | rfl | assumption)
    | (apply s_dead rfl
       · conv => lhs; whnf
       · rfl
       · rfl)
    | (apply s_guard_valU rfl
       · conv => lhs; whnf
       · conv => lhs; whnf
       · conv => lhs; whnf; arg 2; whnf)
    | (apply s_guard_callU rfl
       · conv => lhs; whnf
       · conv => lhs; whnf
       · conv => lhs; whnf
       · first | exact hd)
    | (apply s_guard_val rfl
       · conv => lhs; whnf
       · conv => lhs; whnf
       · conv => lhs; whnf; arg 2; whnf)
    | (apply s_guard_call rfl
       · conv => lhs; whnf
       · conv => lhs; whnf
       · conv => lhs; whnf
       · first | exact hd)
    | (apply aw_cond_t
       · conv => lhs; whnf; arg 1; arg 1; whnf)
    | (apply aw_cond_f
       · conv => lhs; whnf; arg 1; arg 1; whnf)
    | (refine aw_cond (by conv => lhs; whnf) ?_ ?_ <;> intro hb)
    | refine aw_ret ?_
    | refine aw_exit ?_
    | refine k_seq_exit ?_
    | refine k_seq_ret ?_
    | refine k_block_ret ?_
    | refine k_block_hit rfl ?_
    | refine k_block_miss rfl ?_
    | refine k_scope_exit ?_
    | refine k_scope_ret ?_
    | refine k_loop_exit ?_
    | refine k_loop_ret ?_
    | refine k_end ?_
    | refine k_end_ret ?_
    | (refine ⟨_, by conv => lhs; whnf; arg 2; whnf, ?_⟩; conv => rhs; whnf)
    | exact trivial
    | intro hg)
    all_goals first
      | (refine str5 ?_; rw [lit_bs5]; done)
      | (refine str5 ?_; simp only [lit_bs5, ← bs_append, ByteArray.append_assoc]; done)
      | (simp only [bs_size] at hi; simp only [ByteArray.size_append, bs_size, lit_size5, List.size_toArray, List.length_cons, List.length_nil, maxLen, Nat.reduceAdd]; omega)
      | skip
end Go.Proofs.YtdklhkdlndlgnaaGreatDoor
