/- Parts of a proof, merged by a program (shake.py). -/
import Derived.Test.YtohneabalakmeaaDoorDq36
namespace Go.Proofs.YtohneabalakmeaaDoor
open Go.RowKit
attribute [local irreducible] wpList Calls Code.wp AW AWo OpOk seqK blockK scopeK loopK endK AC absLex Yld Sub
theorem gU_le_lines {ts : List (List UInt8)} {i : Nat} (hl : (linesB ts).length ≤ 100000000) : (gU ts i).length ≤ 100000000 := by
  by_cases h : i < ts.length
  · have := linesB_size h hl; omega
  · have e : gU ts i = [] := by unfold gU; rw [List.getD_eq_getElem?_getD, List.getElem?_eq_none (by omega)]; rfl
    rw [e]; simp
noncomputable def H79U (x : D) (mn : List (List UInt8)) (i : Nat) : Vst 139 :=
  stS 139 [(1, .bx 1 0), (5, .own 5 9 (strsD (mn.take i))), (38, .sl 112 (x.f 5).l), (39, .c (.int .i64 (x.f 5).l.length)), (40, .c (.int .i64 i))] [(1, .box 58 (cellsV Tryd.prog 12 58 x)), (5, .tok 9 (strsD (mn.take i)).length)]
noncomputable def H79T (h2 : List UInt8) (ts : List (List UInt8)) (i : Nat) : Vst 139 :=
  stS 139 [(14, .c (.string (bs (h2 ++ linesB (ts.take i))))), (125, .own 3 9 (strsD ts)), (126, .c (.int .i64 ts.length)), (127, .c (.int .i64 i))] []
noncomputable def H79L (x : D) (h0 : List UInt8) (ts : List (List UInt8)) (q : Nat) (e : TypeId) (l : List D) (i : Nat) : Vst 139 :=
  stS 139 [(1, .bx 1 0), (3, .own 3 9 (strsD (ts.take i))), (4, .c (.string (bs h0))), (q, .sl e l), (q + 1, .c (.int .i64 l.length)), (q + 2, .c (.int .i64 i))] [(1, .box 58 (cellsV Tryd.prog 12 58 x)), (3, .tok 9 (strsD (ts.take i)).length)]
set_option maxHeartbeats 8000000 in
set_option maxRecDepth 100000 in
theorem blockP_ac (x : D) (dt : List UInt8) (im mn ts ds : List (List UInt8)) (hk : 1 ≤ (x.f 0).n ∧ (x.f 0).n ≤ 5) (hIm : (x.f 2).l = strsD im)
    (hT : AC EN Tryd.prog 115 [.sl 101 (x.f 3).l] (.c (.string (bs dt))))
    (hF : (x.f 0).n = 1 ∨ (x.f 0).n = 2 → ts.length = (x.f 4).l.length ∧ ∀ i, i < (x.f 4).l.length → AC EN Tryd.prog 116 [.agg (cellsV Tryd.prog 12 64 (gD (x.f 4).l i))] (.c (.string (bs (gU ts i)))))
    (hE : (x.f 0).n = 4 → ts.length = (x.f 5).l.length ∧ ∀ i, i < (x.f 5).l.length → AC EN Tryd.prog 115 [.sl 101 ((gD (x.f 5).l i).f 1).l] (.c (.string (bs (gU ds i)))) ∧ gU ts i = tx ((gD (x.f 5).l i).f 0).s ++ gU ds i)
    (hI : (x.f 0).n = 5 → ts.length = (x.f 6).l.length ∧ ∀ i, i < (x.f 6).l.length → AC EN Tryd.prog 117 [.agg (cellsV Tryd.prog 12 132 (gD (x.f 6).l i))] (.c (.string (bs (gU ts i)))))
    (hM : (x.f 0).n = 3 → mn.length = (x.f 5).l.length ∧ ∀ i, i < (x.f 5).l.length → ((gD (x.f 5).l i).f 0).s = bs (gU mn i))
    (hj1 : (Lib.join im [32, 38, 32]).length ≤ 100000000) (hj2 : (Lib.join mn [32, 124, 32]).length ≤ 100000000) (hn1 : im.length ≤ 100000000) (hn2 : mn.length ≤ 100000000) (hn3 : ts.length ≤ 100000000)
    (hl : (linesB ts).length ≤ 100000000) (hs : (x.f 1).s.size + dt.length ≤ 1000000000) :
    AC EN Tryd.prog 79 [.agg (cellsV Tryd.prog 12 58 x)] (.c (.string (bs (blockB (x.f 0).n (tx (x.f 1).s) dt im mn ts)))) := by
  have hjo1 := join_ac im [32, 38, 32] hn1 hj1
  have hjo2 := join_ac mn [32, 124, 32] hn2 hj2
  rw [← hIm] at hjo1
  refine ac_enter 139 Tryd.func79 rfl rfl rfl rfl ?_
  intro s w he
  repeat' (first
    | refine aw_seq ?_
    | refine aw_region ?_
    | refine awo_nil ?_
    | refine k_seq ?_
    | refine k_block ?_
    | refine k_scope ?_
    | refine aw_block ?_
    | refine aw_skip ?_
    | refine aw_label ?_
    | refine aw_scope ?_
    | (apply s_val rfl
       · conv => lhs; whnf
       · conv => lhs; whnf; arg 2; whnf)
    | (apply s_call rfl
       · conv => lhs; whnf
       · conv => lhs; whnf
       · first | exact hjo1 | exact hT)
    | (apply s_box rfl rfl rfl rfl
       · conv => lhs; whnf; arg 1; whnf
       · rfl)
    | (apply s_alloc rfl rfl rfl rfl
       · conv => lhs; whnf; arg 1; whnf
       · rfl)
    | (apply s_store rfl rfl rfl
       · conv => lhs; whnf
       · conv => lhs; whnf; arg 1; whnf
       · conv => lhs; whnf; arg 1; whnf
       · exact ⟨by kernel_rfl, by kernel_rfl⟩
       · rfl)
    | (apply s_app rfl rfl
       · conv => lhs; whnf
       · first | exact elemStr | (conv => lhs; whnf; arg 1; whnf)
       · first | exact fun _ => rfl | (intro _; kernel_rfl)
       · conv => lhs; whnf
       · conv => lhs; whnf; arg 1; whnf
       · conv => lhs; whnf)
    | (apply s_app_nil rfl rfl rfl rfl
       · first | exact elemStr | (conv => lhs; whnf; arg 1; whnf)
       · first | exact fun _ => rfl | (intro _; kernel_rfl)
       · conv => lhs; whnf
       · conv => lhs; whnf)
    | (apply s_lit0 rfl rfl
       · conv => lhs; whnf
       · first | exact elemStr | (conv => lhs; whnf; arg 1; whnf))
    | (apply s_lit1 rfl rfl
       · conv => lhs; whnf
       · first | exact elemStr | (conv => lhs; whnf; arg 1; whnf)
       · conv => lhs; whnf; arg 1; whnf
       · rfl
       · rfl)
    | (apply s_onlit rfl rfl
       · conv => lhs; whnf
       · first | exact elemStr | (conv => lhs; whnf; arg 1; whnf)
       · first | exact fun _ => rfl | (intro _; kernel_rfl)
       · conv => lhs; whnf
       · conv => lhs; whnf)
    | (apply aw_draw (by kernel_rfl) (by kernel_rfl))
    | apply y_nil
    | (apply y_val rfl
       · conv => lhs; whnf
       · conv => lhs; whnf; arg 2; whnf)
    | (apply y_call rfl
       · conv => lhs; whnf
       · conv => lhs; whnf
       · first | exact hjo1 | exact hT)
    | (apply y_store rfl rfl rfl
       · conv => lhs; whnf
       · rfl
       · rfl
       · conv => lhs; whnf; arg 1; whnf
       · conv => lhs; whnf; arg 1; whnf
       · exact ⟨by kernel_rfl, by kernel_rfl⟩
       · rfl)
    | (apply y_app rfl rfl
       · conv => lhs; whnf
       · first | exact elemStr | (conv => lhs; whnf; arg 1; whnf)
       · first | exact fun _ => rfl | (intro _; kernel_rfl)
       · conv => lhs; whnf
       · rfl
       · rfl
       · conv => lhs; whnf; arg 1; whnf
       · conv => lhs; whnf)
    | (apply y_lit0 rfl rfl
       · conv => lhs; whnf
       · first | exact elemStr | (conv => lhs; whnf; arg 1; whnf))
    | (apply y_lit1 rfl rfl
       · conv => lhs; whnf
       · first | exact elemStr | (conv => lhs; whnf; arg 1; whnf)
       · conv => lhs; whnf; arg 1; whnf
       · rfl
       · rfl)
    | (apply y_onlit rfl rfl
       · conv => lhs; whnf
       · first | exact elemStr | (conv => lhs; whnf; arg 1; whnf)
       · first | exact fun _ => rfl | (intro _; kernel_rfl)
       · conv => lhs; whnf
       · conv => lhs; whnf)
    | exact apartB_none
    | exact apartB_nil
    | exact all_nil
    | (show List.all _ _ = true; rfl)
    | (show apartB _ _ = true; rfl)
    | exact ([] : List Nat)
    | exact (1000000 : Nat)
    | (apply aw_cond_t
       · conv => lhs; whnf; arg 1; arg 1; whnf)
    | (apply aw_cond_f
       · conv => lhs; whnf; arg 1; arg 1; whnf)
    | (refine aw_cond (by conv => lhs; whnf) ?_ ?_ <;> intro hb)
    | refine aw_ret ?_
    | refine aw_exit ?_
    | refine k_seq_exit ?_
    | refine k_seq_ret ?_
    | refine k_block_ret ?_
    | refine k_block_hit rfl ?_
    | refine k_block_miss rfl ?_
    | refine k_scope_exit ?_
    | refine k_scope_ret ?_
    | refine k_loop_exit ?_
    | refine k_loop_ret ?_
    | refine k_end ?_
    | refine k_end_ret ?_
    | (refine ⟨_, by conv => lhs; whnf; arg 2; whnf, ?_⟩; conv => rhs; whnf)
    | exact trivial
    | intro hg)
  all_goals try (exfalso; simp only [beq_iff_eq, decide_eq_true_eq, decide_eq_false_iff_not, beq_eq_false_iff_ne, bne_iff_ne, ne_eq, ge_iff_le, Bool.decide_eq_true, Bool.decide_eq_false, Bool.not_eq_true', beq_true, beq_false, Bool.not_eq_eq_eq_not, Bool.not_false, Bool.not_true] at *; omega)
  all_goals try (simp only [ByteArray.size_append, bs_size, lit_size, List.size_toArray, List.length_append, List.length_cons, List.length_nil, maxLen, Nat.reduceAdd, Int.toNat_natCast]; omega)
  · have h3 : (x.f 0).n = 3 := by simpa using hb
    obtain ⟨hlen, hf⟩ := hM h3
    refine aw_sub (Sub.own (t := 5) (e := 9) rfl rfl) ?_
    refine aw_loop (fun j st => ∃ i, i + j = mn.length ∧ Sub (cx EN Tryd.prog s w he) st (H79U x mn i)) mn.length ⟨0, by omega, ?_⟩ ?_
    · exact Sub.live ⟨rfl, rfl, rfl, rfl, rfl, trivial⟩ ⟨rfl, rfl, trivial⟩
    · rintro j st ⟨i, hij, hs2⟩
      refine aw_sub hs2 ?_
      have htk := strsD_take_len (ls := mn) (i := i) (by omega)
      have hjo3 : decide ((i : Int) < (x.f 5).l.length) = false → AC EN Tryd.prog 76 [.sl 9 (strsD (mn.take i)), .c (.string (bs [32, 124, 32]))] (.c (.string (bs (Lib.join mn [32, 124, 32])))) := fun h => by
        have e : i = mn.length := by simp at h; omega
        rw [e, List.take_length]; exact hjo2
      repeat' (first
    | refine aw_seq ?_
    | refine aw_region ?_
    | refine awo_nil ?_
    | refine k_seq ?_
    | refine k_block ?_
    | refine k_scope ?_
    | refine aw_block ?_
    | refine aw_skip ?_
    | refine aw_label ?_
    | refine aw_scope ?_
    | (apply s_val rfl
       · conv => lhs; whnf
       · conv => lhs; whnf; arg 2; whnf)
    | (apply s_call rfl
       · conv => lhs; whnf
       · conv => lhs; whnf
       · first | exact hT | exact hjo3 (by assumption))
    | (apply s_box rfl rfl rfl rfl
       · conv => lhs; whnf; arg 1; whnf
       · rfl)
    | (apply s_alloc rfl rfl rfl rfl
       · conv => lhs; whnf; arg 1; whnf
       · rfl)
    | (apply s_store rfl rfl rfl
       · conv => lhs; whnf
       · conv => lhs; whnf; arg 1; whnf
       · conv => lhs; whnf; arg 1; whnf
       · exact ⟨by kernel_rfl, by kernel_rfl⟩
       · rfl)
    | (apply s_app rfl rfl
       · conv => lhs; whnf
       · first | exact elemStr | (conv => lhs; whnf; arg 1; whnf)
       · first | exact fun _ => rfl | (intro _; kernel_rfl)
       · conv => lhs; whnf
       · conv => lhs; whnf; arg 1; whnf
       · conv => lhs; whnf)
    | (apply s_app_nil rfl rfl rfl rfl
       · first | exact elemStr | (conv => lhs; whnf; arg 1; whnf)
       · first | exact fun _ => rfl | (intro _; kernel_rfl)
       · conv => lhs; whnf
       · conv => lhs; whnf)
    | (apply s_lit0 rfl rfl
       · conv => lhs; whnf
       · first | exact elemStr | (conv => lhs; whnf; arg 1; whnf))
    | (apply s_lit1 rfl rfl
       · conv => lhs; whnf
       · first | exact elemStr | (conv => lhs; whnf; arg 1; whnf)
       · conv => lhs; whnf; arg 1; whnf
       · rfl
       · rfl)
    | (apply s_onlit rfl rfl
       · conv => lhs; whnf
       · first | exact elemStr | (conv => lhs; whnf; arg 1; whnf)
       · first | exact fun _ => rfl | (intro _; kernel_rfl)
       · conv => lhs; whnf
       · conv => lhs; whnf)
    | (apply aw_draw (by kernel_rfl) (by kernel_rfl))
    | apply y_nil
    | (apply y_val rfl
       · conv => lhs; whnf
       · conv => lhs; whnf; arg 2; whnf)
    | (apply y_call rfl
       · conv => lhs; whnf
       · conv => lhs; whnf
       · first | exact hT | exact hjo3 (by assumption))
    | (apply y_store rfl rfl rfl
       · conv => lhs; whnf
       · rfl
       · rfl
       · conv => lhs; whnf; arg 1; whnf
       · conv => lhs; whnf; arg 1; whnf
       · exact ⟨by kernel_rfl, by kernel_rfl⟩
       · rfl)
    | (apply y_app rfl rfl
       · conv => lhs; whnf
       · first | exact elemStr | (conv => lhs; whnf; arg 1; whnf)
       · first | exact fun _ => rfl | (intro _; kernel_rfl)
       · conv => lhs; whnf
       · rfl
       · rfl
       · conv => lhs; whnf; arg 1; whnf
       · conv => lhs; whnf)
    | (apply y_lit0 rfl rfl
       · conv => lhs; whnf
       · first | exact elemStr | (conv => lhs; whnf; arg 1; whnf))
    | (apply y_lit1 rfl rfl
       · conv => lhs; whnf
       · first | exact elemStr | (conv => lhs; whnf; arg 1; whnf)
       · conv => lhs; whnf; arg 1; whnf
       · rfl
       · rfl)
    | (apply y_onlit rfl rfl
       · conv => lhs; whnf
       · first | exact elemStr | (conv => lhs; whnf; arg 1; whnf)
       · first | exact fun _ => rfl | (intro _; kernel_rfl)
       · conv => lhs; whnf
       · conv => lhs; whnf)
    | exact apartB_none
    | exact apartB_nil
    | exact all_nil
    | (show List.all _ _ = true; rfl)
    | (show apartB _ _ = true; rfl)
    | exact ([] : List Nat)
    | exact (1000000 : Nat)
    | (apply aw_cond_t
       · conv => lhs; whnf; arg 1; arg 1; whnf)
    | (apply aw_cond_f
       · conv => lhs; whnf; arg 1; arg 1; whnf)
    | (refine aw_cond (by conv => lhs; whnf) ?_ ?_ <;> intro hb)
    | refine aw_ret ?_
    | refine aw_exit ?_
    | refine k_seq_exit ?_
    | refine k_seq_ret ?_
    | refine k_block_ret ?_
    | refine k_block_hit rfl ?_
    | refine k_block_miss rfl ?_
    | refine k_scope_exit ?_
    | refine k_scope_ret ?_
    | refine k_loop_exit ?_
    | refine k_loop_ret ?_
    | refine k_end ?_
    | refine k_end_ret ?_
    | (refine ⟨_, by conv => lhs; whnf; arg 2; whnf, ?_⟩; conv => rhs; whnf)
    | exact trivial
    | intro hg)
      · have hb : decide ((i : Int) < (x.f 5).l.length) = true := hb
        have hlt2 : i < (x.f 5).l.length := by simpa using hb
        have hlt : i < mn.length := by omega
        have hnm := hf i hlt2
        refine k_loop_next (j' := j - 1) (by omega) ⟨i + 1, by omega, Sub.live ⟨rfl, ?_, rfl, rfl, rfl, trivial⟩ ⟨rfl, ?_, trivial⟩⟩
        · show V.own 5 _ (strsD (mn.take i) ++ [.str ((gD (x.f 5).l i).f 0).s]) = _
          rw [strsD_take hlt, hnm]
        · show some (Res.tok _ ((strsD (mn.take i)).length + 1)) = _
          rw [strsD_take hlt, List.length_append]; rfl
      · exact i64_ok (by omega)
      · rw [htk]; simp only [List.length_cons, List.length_nil, maxLen]; omega
      · show 0 ≤ (i : Int) ∧ (i : Int) < ((x.f 5).l.length : Int)
        have hb : decide ((i : Int) < (x.f 5).l.length) = true := hb
        simp at hb; omega
      all_goals try (simp only [ByteArray.size_append, bs_size, lit_size, List.size_toArray, List.length_append, List.length_cons, List.length_nil, maxLen, Nat.reduceAdd, Int.toNat_natCast]; omega)
      · unfold blockB headB
        rw [h3, if_neg (by omega), if_pos rfl]
        simp only [lit_bs, ← bs_append, bs_tx, ByteArray.append_assoc, bs_nil, ByteArray.append_empty, ByteArray.empty_append]
        rfl
  · obtain ⟨hlen, hf⟩ := hF (.inl (by rename_i h1 _; simpa using h1))
    refine aw_sub (Sub.own (t := 3) (e := 9) rfl rfl) ?_
    refine aw_loop (fun j st => ∃ i, i + j = ts.length ∧ Sub (cx EN Tryd.prog s w he) st (H79L x ([116, 121, 112, 101, 32] ++ tx (x.f 1).s ++ ([32, 105, 109, 112, 108, 101, 109, 101, 110, 116, 115, 32] ++ Lib.join im [32, 38, 32])) ts 85 64 (x.f 4).l i)) ts.length ⟨0, by omega, ?_⟩ ?_
    · refine Sub.live ⟨rfl, rfl, ?_, rfl, rfl, rfl, trivial⟩ ⟨rfl, rfl, trivial⟩
      show V.c (.string _) = V.c (.string _)
      simp only [lit_bs, ← bs_append, bs_tx, ByteArray.append_assoc]
    · rintro j st ⟨i, hij, hs2⟩
      refine aw_sub hs2 ?_
      have htk := strsD_take_len (ls := ts) (i := i) (by omega)
      have hi2 := fun (h : decide ((i : Int) < (x.f 4).l.length) = true) => hf i (by simpa using h)
      repeat' (first
    | refine aw_seq ?_
    | refine aw_region ?_
    | refine awo_nil ?_
    | refine k_seq ?_
    | refine k_block ?_
    | refine k_scope ?_
    | refine aw_block ?_
    | refine aw_skip ?_
    | refine aw_label ?_
    | refine aw_scope ?_
    | (apply s_val rfl
       · conv => lhs; whnf
       · conv => lhs; whnf; arg 2; whnf)
    | (apply s_call rfl
       · conv => lhs; whnf
       · conv => lhs; whnf
       · first | exact hT | exact hi2 (by assumption))
    | (apply s_box rfl rfl rfl rfl
       · conv => lhs; whnf; arg 1; whnf
       · rfl)
    | (apply s_alloc rfl rfl rfl rfl
       · conv => lhs; whnf; arg 1; whnf
       · rfl)
    | (apply s_store rfl rfl rfl
       · conv => lhs; whnf
       · conv => lhs; whnf; arg 1; whnf
       · conv => lhs; whnf; arg 1; whnf
       · exact ⟨by kernel_rfl, by kernel_rfl⟩
       · rfl)
    | (apply s_app rfl rfl
       · conv => lhs; whnf
       · first | exact elemStr | (conv => lhs; whnf; arg 1; whnf)
       · first | exact fun _ => rfl | (intro _; kernel_rfl)
       · conv => lhs; whnf
       · conv => lhs; whnf; arg 1; whnf
       · conv => lhs; whnf)
    | (apply s_app_nil rfl rfl rfl rfl
       · first | exact elemStr | (conv => lhs; whnf; arg 1; whnf)
       · first | exact fun _ => rfl | (intro _; kernel_rfl)
       · conv => lhs; whnf
       · conv => lhs; whnf)
    | (apply s_lit0 rfl rfl
       · conv => lhs; whnf
       · first | exact elemStr | (conv => lhs; whnf; arg 1; whnf))
    | (apply s_lit1 rfl rfl
       · conv => lhs; whnf
       · first | exact elemStr | (conv => lhs; whnf; arg 1; whnf)
       · conv => lhs; whnf; arg 1; whnf
       · rfl
       · rfl)
    | (apply s_onlit rfl rfl
       · conv => lhs; whnf
       · first | exact elemStr | (conv => lhs; whnf; arg 1; whnf)
       · first | exact fun _ => rfl | (intro _; kernel_rfl)
       · conv => lhs; whnf
       · conv => lhs; whnf)
    | (apply aw_draw (by kernel_rfl) (by kernel_rfl))
    | apply y_nil
    | (apply y_val rfl
       · conv => lhs; whnf
       · conv => lhs; whnf; arg 2; whnf)
    | (apply y_call rfl
       · conv => lhs; whnf
       · conv => lhs; whnf
       · first | exact hT | exact hi2 (by assumption))
    | (apply y_store rfl rfl rfl
       · conv => lhs; whnf
       · rfl
       · rfl
       · conv => lhs; whnf; arg 1; whnf
       · conv => lhs; whnf; arg 1; whnf
       · exact ⟨by kernel_rfl, by kernel_rfl⟩
       · rfl)
    | (apply y_app rfl rfl
       · conv => lhs; whnf
       · first | exact elemStr | (conv => lhs; whnf; arg 1; whnf)
       · first | exact fun _ => rfl | (intro _; kernel_rfl)
       · conv => lhs; whnf
       · rfl
       · rfl
       · conv => lhs; whnf; arg 1; whnf
       · conv => lhs; whnf)
    | (apply y_lit0 rfl rfl
       · conv => lhs; whnf
       · first | exact elemStr | (conv => lhs; whnf; arg 1; whnf))
    | (apply y_lit1 rfl rfl
       · conv => lhs; whnf
       · first | exact elemStr | (conv => lhs; whnf; arg 1; whnf)
       · conv => lhs; whnf; arg 1; whnf
       · rfl
       · rfl)
    | (apply y_onlit rfl rfl
       · conv => lhs; whnf
       · first | exact elemStr | (conv => lhs; whnf; arg 1; whnf)
       · first | exact fun _ => rfl | (intro _; kernel_rfl)
       · conv => lhs; whnf
       · conv => lhs; whnf)
    | exact apartB_none
    | exact apartB_nil
    | exact all_nil
    | (show List.all _ _ = true; rfl)
    | (show apartB _ _ = true; rfl)
    | exact ([] : List Nat)
    | exact (1000000 : Nat)
    | (apply aw_cond_t
       · conv => lhs; whnf; arg 1; arg 1; whnf)
    | (apply aw_cond_f
       · conv => lhs; whnf; arg 1; arg 1; whnf)
    | (refine aw_cond (by conv => lhs; whnf) ?_ ?_ <;> intro hb)
    | refine aw_ret ?_
    | refine aw_exit ?_
    | refine k_seq_exit ?_
    | refine k_seq_ret ?_
    | refine k_block_ret ?_
    | refine k_block_hit rfl ?_
    | refine k_block_miss rfl ?_
    | refine k_scope_exit ?_
    | refine k_scope_ret ?_
    | refine k_loop_exit ?_
    | refine k_loop_ret ?_
    | refine k_end ?_
    | refine k_end_ret ?_
    | (refine ⟨_, by conv => lhs; whnf; arg 2; whnf, ?_⟩; conv => rhs; whnf)
    | exact trivial
    | intro hg)
      · have hb : decide ((i : Int) < (x.f 4).l.length) = true := hb
        have hlt : i < ts.length := by simp at hb; omega
        refine k_loop_next (j' := j - 1) (by omega) ⟨i + 1, by omega, Sub.live ⟨rfl, ?_, rfl, rfl, rfl, rfl, trivial⟩ ⟨rfl, ?_, trivial⟩⟩
        · show V.own 3 _ (strsD (ts.take i) ++ [.str (bs (gU ts i))]) = _
          rw [strsD_take hlt]
        · show some (Res.tok _ ((strsD (ts.take i)).length + 1)) = _
          rw [strsD_take hlt, List.length_append]; rfl
      · exact i64_ok (by omega)
      · rw [htk]; simp only [List.length_cons, List.length_nil, maxLen]; omega
      · show 0 ≤ (i : Int) ∧ (i : Int) < ((x.f 4).l.length : Int)
        have hb : decide ((i : Int) < (x.f 4).l.length) = true := hb
        simp at hb; omega
      ·
        have e : i = ts.length := by
          have hb : decide ((i : Int) < (x.f 4).l.length) = false := hb
          simp at hb; omega
        refine aw_loop (fun j st => ∃ i, i + j = ts.length ∧ Sub (cx EN Tryd.prog s w he) st (H79T (([116, 121, 112, 101, 32] ++ tx (x.f 1).s ++ ([32, 105, 109, 112, 108, 101, 109, 101, 110, 116, 115, 32] ++ Lib.join im [32, 38, 32])) ++ dt ++ [32, 123, 10]) ts i)) ts.length ⟨0, by omega, ?_⟩ ?_
        · refine Sub.live ⟨?_, ?_, ?_, rfl, trivial⟩ trivial
          · show V.c (.string (bs ([116, 121, 112, 101, 32] ++ tx (x.f 1).s ++ ([32, 105, 109, 112, 108, 101, 109, 101, 110, 116, 115, 32] ++ Lib.join im [32, 38, 32])) ++ bs dt ++ ⟨#[32, 123, 10]⟩)) = _
            simp only [lit_bs, bs_append, List.take_zero, linesB_nil, List.append_nil]
          · show V.own 3 _ (strsD (ts.take i)) = _
            rw [e, List.take_length]
          · show V.c (.int .i64 ((strsD (ts.take i)).length : Int)) = _
            rw [htk, e]
        · rintro j st ⟨i, hij, hs2⟩
          refine aw_sub hs2 ?_
          have hst := fun (h : decide ((i : Int) < (ts.length : Int)) = true) => linesB_size (ts := ts) (i := i) (by simpa using h) hl
          have hel : i < ts.length → (gD (strsD ts) i).s = bs (gU ts i) := fun h => strsD_get h
          have hm0 := linesB_mono ts i
          repeat' (first
    | refine aw_seq ?_
    | refine aw_region ?_
    | refine awo_nil ?_
    | refine k_seq ?_
    | refine k_block ?_
    | refine k_scope ?_
    | refine aw_block ?_
    | refine aw_skip ?_
    | refine aw_label ?_
    | refine aw_scope ?_
    | (apply s_val rfl
       · conv => lhs; whnf
       · conv => lhs; whnf; arg 2; whnf)
    | (apply s_call rfl
       · conv => lhs; whnf
       · conv => lhs; whnf
       · first | fail)
    | (apply s_box rfl rfl rfl rfl
       · conv => lhs; whnf; arg 1; whnf
       · rfl)
    | (apply s_alloc rfl rfl rfl rfl
       · conv => lhs; whnf; arg 1; whnf
       · rfl)
    | (apply s_store rfl rfl rfl
       · conv => lhs; whnf
       · conv => lhs; whnf; arg 1; whnf
       · conv => lhs; whnf; arg 1; whnf
       · exact ⟨by kernel_rfl, by kernel_rfl⟩
       · rfl)
    | (apply s_app rfl rfl
       · conv => lhs; whnf
       · first | (conv => lhs; whnf; arg 1; whnf)
       · first | exact fun _ => rfl | (intro _; kernel_rfl)
       · conv => lhs; whnf
       · conv => lhs; whnf; arg 1; whnf
       · conv => lhs; whnf)
    | (apply s_app_nil rfl rfl rfl rfl
       · first | (conv => lhs; whnf; arg 1; whnf)
       · first | exact fun _ => rfl | (intro _; kernel_rfl)
       · conv => lhs; whnf
       · conv => lhs; whnf)
    | (apply s_lit0 rfl rfl
       · conv => lhs; whnf
       · first | (conv => lhs; whnf; arg 1; whnf))
    | (apply s_lit1 rfl rfl
       · conv => lhs; whnf
       · first | (conv => lhs; whnf; arg 1; whnf)
       · conv => lhs; whnf; arg 1; whnf
       · rfl
       · rfl)
    | (apply s_onlit rfl rfl
       · conv => lhs; whnf
       · first | (conv => lhs; whnf; arg 1; whnf)
       · first | exact fun _ => rfl | (intro _; kernel_rfl)
       · conv => lhs; whnf
       · conv => lhs; whnf)
    | (apply aw_draw (by kernel_rfl) (by kernel_rfl))
    | apply y_nil
    | (apply y_val rfl
       · conv => lhs; whnf
       · conv => lhs; whnf; arg 2; whnf)
    | (apply y_call rfl
       · conv => lhs; whnf
       · conv => lhs; whnf
       · first | fail)
    | (apply y_store rfl rfl rfl
       · conv => lhs; whnf
       · rfl
       · rfl
       · conv => lhs; whnf; arg 1; whnf
       · conv => lhs; whnf; arg 1; whnf
       · exact ⟨by kernel_rfl, by kernel_rfl⟩
       · rfl)
    | (apply y_app rfl rfl
       · conv => lhs; whnf
       · first | (conv => lhs; whnf; arg 1; whnf)
       · first | exact fun _ => rfl | (intro _; kernel_rfl)
       · conv => lhs; whnf
       · rfl
       · rfl
       · conv => lhs; whnf; arg 1; whnf
       · conv => lhs; whnf)
    | (apply y_lit0 rfl rfl
       · conv => lhs; whnf
       · first | (conv => lhs; whnf; arg 1; whnf))
    | (apply y_lit1 rfl rfl
       · conv => lhs; whnf
       · first | (conv => lhs; whnf; arg 1; whnf)
       · conv => lhs; whnf; arg 1; whnf
       · rfl
       · rfl)
    | (apply y_onlit rfl rfl
       · conv => lhs; whnf
       · first | (conv => lhs; whnf; arg 1; whnf)
       · first | exact fun _ => rfl | (intro _; kernel_rfl)
       · conv => lhs; whnf
       · conv => lhs; whnf)
    | exact apartB_none
    | exact apartB_nil
    | exact all_nil
    | (show List.all _ _ = true; rfl)
    | (show apartB _ _ = true; rfl)
    | exact ([] : List Nat)
    | exact (1000000 : Nat)
    | (apply aw_cond_t
       · conv => lhs; whnf; arg 1; arg 1; whnf)
    | (apply aw_cond_f
       · conv => lhs; whnf; arg 1; arg 1; whnf)
    | (refine aw_cond (by conv => lhs; whnf) ?_ ?_ <;> intro hb)
    | refine aw_ret ?_
    | refine aw_exit ?_
    | refine k_seq_exit ?_
    | refine k_seq_ret ?_
    | refine k_block_ret ?_
    | refine k_block_hit rfl ?_
    | refine k_block_miss rfl ?_
    | refine k_scope_exit ?_
    | refine k_scope_ret ?_
    | refine k_loop_exit ?_
    | refine k_loop_ret ?_
    | refine k_end ?_
    | refine k_end_ret ?_
    | (refine ⟨_, by conv => lhs; whnf; arg 2; whnf, ?_⟩; conv => rhs; whnf)
    | exact trivial
    | intro hg)
          · have hlt : i < ts.length := by simpa using hb
            refine k_loop_next (j' := j - 1) (by omega) ⟨i + 1, by omega, Sub.live ⟨?_, rfl, rfl, rfl, trivial⟩ trivial⟩
            show V.c (.string (bs (([116, 121, 112, 101, 32] ++ tx (x.f 1).s ++ ([32, 105, 109, 112, 108, 101, 109, 101, 110, 116, 115, 32] ++ Lib.join im [32, 38, 32])) ++ dt ++ [32, 123, 10] ++ linesB (ts.take i)) ++ (⟨#[32, 32]⟩ ++ (gD (strsD ts) i).s ++ ⟨#[10]⟩))) = _
            rw [hel hlt, linesB_step hlt]
            simp only [lit_bs, bs_append, List.append_assoc]
          · exact i64_ok (by omega)
          all_goals try (have hq := hst hb; rw [show ((i : Int)).toNat = i from rfl, hel (by simpa using hb)]; simp only [ByteArray.size_append, bs_size, lit_size, tx_size, List.size_toArray, List.length_append, List.length_cons, List.length_nil, maxLen]; omega)
          all_goals try (show 0 ≤ (i : Int) ∧ (i : Int) < ((strsD ts).length : Int); rw [strsD_length]; simp at hb; omega)
          all_goals try (simp only [ByteArray.size_append, bs_size, lit_size, tx_size, List.size_toArray, List.length_append, List.length_cons, List.length_nil, maxLen]; omega)
          · have e2 : i = ts.length := by simp at hb; omega
            have hn1 : (x.f 0).n = 1 := by have h1 : ((x.f 0).n == 1) = true := by assumption
                                           simpa using h1
            have him : 0 < im.length := by
              have h9 : decide (((x.f 2).l.length : Int) > 0) = true := by assumption
              rw [hIm, strsD_length] at h9; simpa using h9
            unfold blockB headB
            rw [hn1, if_pos ⟨rfl, him⟩, if_neg (by omega), e2, List.take_length]
            simp only [lit_bs, bs_append, List.append_assoc]
            rfl
      all_goals try (simp only [ByteArray.size_append, bs_size, lit_size, tx_size, List.size_toArray, List.length_append, List.length_cons, List.length_nil, maxLen]; omega)
  · obtain ⟨hlen, hf⟩ := hF (.inl (by rename_i h1 _; simpa using h1))
    refine aw_sub (Sub.own (t := 3) (e := 9) rfl rfl) ?_
    refine aw_loop (fun j st => ∃ i, i + j = ts.length ∧ Sub (cx EN Tryd.prog s w he) st (H79L x ([116, 121, 112, 101, 32] ++ tx (x.f 1).s) ts 85 64 (x.f 4).l i)) ts.length ⟨0, by omega, ?_⟩ ?_
    · refine Sub.live ⟨rfl, rfl, ?_, rfl, rfl, rfl, trivial⟩ ⟨rfl, rfl, trivial⟩
      show V.c (.string _) = V.c (.string _)
      simp only [lit_bs, ← bs_append, bs_tx, ByteArray.append_assoc]
    · rintro j st ⟨i, hij, hs2⟩
      refine aw_sub hs2 ?_
      have htk := strsD_take_len (ls := ts) (i := i) (by omega)
      have hi2 := fun (h : decide ((i : Int) < (x.f 4).l.length) = true) => hf i (by simpa using h)
      repeat' (first
    | refine aw_seq ?_
    | refine aw_region ?_
    | refine awo_nil ?_
    | refine k_seq ?_
    | refine k_block ?_
    | refine k_scope ?_
    | refine aw_block ?_
    | refine aw_skip ?_
    | refine aw_label ?_
    | refine aw_scope ?_
    | (apply s_val rfl
       · conv => lhs; whnf
       · conv => lhs; whnf; arg 2; whnf)
    | (apply s_call rfl
       · conv => lhs; whnf
       · conv => lhs; whnf
       · first | exact hT | exact hi2 (by assumption))
    | (apply s_box rfl rfl rfl rfl
       · conv => lhs; whnf; arg 1; whnf
       · rfl)
    | (apply s_alloc rfl rfl rfl rfl
       · conv => lhs; whnf; arg 1; whnf
       · rfl)
    | (apply s_store rfl rfl rfl
       · conv => lhs; whnf
       · conv => lhs; whnf; arg 1; whnf
       · conv => lhs; whnf; arg 1; whnf
       · exact ⟨by kernel_rfl, by kernel_rfl⟩
       · rfl)
    | (apply s_app rfl rfl
       · conv => lhs; whnf
       · first | exact elemStr | (conv => lhs; whnf; arg 1; whnf)
       · first | exact fun _ => rfl | (intro _; kernel_rfl)
       · conv => lhs; whnf
       · conv => lhs; whnf; arg 1; whnf
       · conv => lhs; whnf)
    | (apply s_app_nil rfl rfl rfl rfl
       · first | exact elemStr | (conv => lhs; whnf; arg 1; whnf)
       · first | exact fun _ => rfl | (intro _; kernel_rfl)
       · conv => lhs; whnf
       · conv => lhs; whnf)
    | (apply s_lit0 rfl rfl
       · conv => lhs; whnf
       · first | exact elemStr | (conv => lhs; whnf; arg 1; whnf))
    | (apply s_lit1 rfl rfl
       · conv => lhs; whnf
       · first | exact elemStr | (conv => lhs; whnf; arg 1; whnf)
       · conv => lhs; whnf; arg 1; whnf
       · rfl
       · rfl)
    | (apply s_onlit rfl rfl
       · conv => lhs; whnf
       · first | exact elemStr | (conv => lhs; whnf; arg 1; whnf)
       · first | exact fun _ => rfl | (intro _; kernel_rfl)
       · conv => lhs; whnf
       · conv => lhs; whnf)
    | (apply aw_draw (by kernel_rfl) (by kernel_rfl))
    | apply y_nil
    | (apply y_val rfl
       · conv => lhs; whnf
       · conv => lhs; whnf; arg 2; whnf)
    | (apply y_call rfl
       · conv => lhs; whnf
       · conv => lhs; whnf
       · first | exact hT | exact hi2 (by assumption))
    | (apply y_store rfl rfl rfl
       · conv => lhs; whnf
       · rfl
       · rfl
       · conv => lhs; whnf; arg 1; whnf
       · conv => lhs; whnf; arg 1; whnf
       · exact ⟨by kernel_rfl, by kernel_rfl⟩
       · rfl)
    | (apply y_app rfl rfl
       · conv => lhs; whnf
       · first | exact elemStr | (conv => lhs; whnf; arg 1; whnf)
       · first | exact fun _ => rfl | (intro _; kernel_rfl)
       · conv => lhs; whnf
       · rfl
       · rfl
       · conv => lhs; whnf; arg 1; whnf
       · conv => lhs; whnf)
    | (apply y_lit0 rfl rfl
       · conv => lhs; whnf
       · first | exact elemStr | (conv => lhs; whnf; arg 1; whnf))
    | (apply y_lit1 rfl rfl
       · conv => lhs; whnf
       · first | exact elemStr | (conv => lhs; whnf; arg 1; whnf)
       · conv => lhs; whnf; arg 1; whnf
       · rfl
       · rfl)
    | (apply y_onlit rfl rfl
       · conv => lhs; whnf
       · first | exact elemStr | (conv => lhs; whnf; arg 1; whnf)
       · first | exact fun _ => rfl | (intro _; kernel_rfl)
       · conv => lhs; whnf
       · conv => lhs; whnf)
    | exact apartB_none
    | exact apartB_nil
    | exact all_nil
    | (show List.all _ _ = true; rfl)
    | (show apartB _ _ = true; rfl)
    | exact ([] : List Nat)
    | exact (1000000 : Nat)
    | (apply aw_cond_t
       · conv => lhs; whnf; arg 1; arg 1; whnf)
    | (apply aw_cond_f
       · conv => lhs; whnf; arg 1; arg 1; whnf)
    | (refine aw_cond (by conv => lhs; whnf) ?_ ?_ <;> intro hb)
    | refine aw_ret ?_
    | refine aw_exit ?_
    | refine k_seq_exit ?_
    | refine k_seq_ret ?_
    | refine k_block_ret ?_
    | refine k_block_hit rfl ?_
    | refine k_block_miss rfl ?_
    | refine k_scope_exit ?_
    | refine k_scope_ret ?_
    | refine k_loop_exit ?_
    | refine k_loop_ret ?_
    | refine k_end ?_
    | refine k_end_ret ?_
    | (refine ⟨_, by conv => lhs; whnf; arg 2; whnf, ?_⟩; conv => rhs; whnf)
    | exact trivial
    | intro hg)
      · have hb : decide ((i : Int) < (x.f 4).l.length) = true := hb
        have hlt : i < ts.length := by simp at hb; omega
        refine k_loop_next (j' := j - 1) (by omega) ⟨i + 1, by omega, Sub.live ⟨rfl, ?_, rfl, rfl, rfl, rfl, trivial⟩ ⟨rfl, ?_, trivial⟩⟩
        · show V.own 3 _ (strsD (ts.take i) ++ [.str (bs (gU ts i))]) = _
          rw [strsD_take hlt]
        · show some (Res.tok _ ((strsD (ts.take i)).length + 1)) = _
          rw [strsD_take hlt, List.length_append]; rfl
      · exact i64_ok (by omega)
      · rw [htk]; simp only [List.length_cons, List.length_nil, maxLen]; omega
      · show 0 ≤ (i : Int) ∧ (i : Int) < ((x.f 4).l.length : Int)
        have hb : decide ((i : Int) < (x.f 4).l.length) = true := hb
        simp at hb; omega
      ·
        have e : i = ts.length := by
          have hb : decide ((i : Int) < (x.f 4).l.length) = false := hb
          simp at hb; omega
        refine aw_loop (fun j st => ∃ i, i + j = ts.length ∧ Sub (cx EN Tryd.prog s w he) st (H79T (([116, 121, 112, 101, 32] ++ tx (x.f 1).s) ++ dt ++ [32, 123, 10]) ts i)) ts.length ⟨0, by omega, ?_⟩ ?_
        · refine Sub.live ⟨?_, ?_, ?_, rfl, trivial⟩ trivial
          · show V.c (.string (bs ([116, 121, 112, 101, 32] ++ tx (x.f 1).s) ++ bs dt ++ ⟨#[32, 123, 10]⟩)) = _
            simp only [lit_bs, bs_append, List.take_zero, linesB_nil, List.append_nil]
          · show V.own 3 _ (strsD (ts.take i)) = _
            rw [e, List.take_length]
          · show V.c (.int .i64 ((strsD (ts.take i)).length : Int)) = _
            rw [htk, e]
        · rintro j st ⟨i, hij, hs2⟩
          refine aw_sub hs2 ?_
          have hst := fun (h : decide ((i : Int) < (ts.length : Int)) = true) => linesB_size (ts := ts) (i := i) (by simpa using h) hl
          have hel : i < ts.length → (gD (strsD ts) i).s = bs (gU ts i) := fun h => strsD_get h
          have hm0 := linesB_mono ts i
          repeat' (first
    | refine aw_seq ?_
    | refine aw_region ?_
    | refine awo_nil ?_
    | refine k_seq ?_
    | refine k_block ?_
    | refine k_scope ?_
    | refine aw_block ?_
    | refine aw_skip ?_
    | refine aw_label ?_
    | refine aw_scope ?_
    | (apply s_val rfl
       · conv => lhs; whnf
       · conv => lhs; whnf; arg 2; whnf)
    | (apply s_call rfl
       · conv => lhs; whnf
       · conv => lhs; whnf
       · first | fail)
    | (apply s_box rfl rfl rfl rfl
       · conv => lhs; whnf; arg 1; whnf
       · rfl)
    | (apply s_alloc rfl rfl rfl rfl
       · conv => lhs; whnf; arg 1; whnf
       · rfl)
    | (apply s_store rfl rfl rfl
       · conv => lhs; whnf
       · conv => lhs; whnf; arg 1; whnf
       · conv => lhs; whnf; arg 1; whnf
       · exact ⟨by kernel_rfl, by kernel_rfl⟩
       · rfl)
    | (apply s_app rfl rfl
       · conv => lhs; whnf
       · first | (conv => lhs; whnf; arg 1; whnf)
       · first | exact fun _ => rfl | (intro _; kernel_rfl)
       · conv => lhs; whnf
       · conv => lhs; whnf; arg 1; whnf
       · conv => lhs; whnf)
    | (apply s_app_nil rfl rfl rfl rfl
       · first | (conv => lhs; whnf; arg 1; whnf)
       · first | exact fun _ => rfl | (intro _; kernel_rfl)
       · conv => lhs; whnf
       · conv => lhs; whnf)
    | (apply s_lit0 rfl rfl
       · conv => lhs; whnf
       · first | (conv => lhs; whnf; arg 1; whnf))
    | (apply s_lit1 rfl rfl
       · conv => lhs; whnf
       · first | (conv => lhs; whnf; arg 1; whnf)
       · conv => lhs; whnf; arg 1; whnf
       · rfl
       · rfl)
    | (apply s_onlit rfl rfl
       · conv => lhs; whnf
       · first | (conv => lhs; whnf; arg 1; whnf)
       · first | exact fun _ => rfl | (intro _; kernel_rfl)
       · conv => lhs; whnf
       · conv => lhs; whnf)
    | (apply aw_draw (by kernel_rfl) (by kernel_rfl))
    | apply y_nil
    | (apply y_val rfl
       · conv => lhs; whnf
       · conv => lhs; whnf; arg 2; whnf)
    | (apply y_call rfl
       · conv => lhs; whnf
       · conv => lhs; whnf
       · first | fail)
    | (apply y_store rfl rfl rfl
       · conv => lhs; whnf
       · rfl
       · rfl
       · conv => lhs; whnf; arg 1; whnf
       · conv => lhs; whnf; arg 1; whnf
       · exact ⟨by kernel_rfl, by kernel_rfl⟩
       · rfl)
    | (apply y_app rfl rfl
       · conv => lhs; whnf
       · first | (conv => lhs; whnf; arg 1; whnf)
       · first | exact fun _ => rfl | (intro _; kernel_rfl)
       · conv => lhs; whnf
       · rfl
       · rfl
       · conv => lhs; whnf; arg 1; whnf
       · conv => lhs; whnf)
    | (apply y_lit0 rfl rfl
       · conv => lhs; whnf
       · first | (conv => lhs; whnf; arg 1; whnf))
    | (apply y_lit1 rfl rfl
       · conv => lhs; whnf
       · first | (conv => lhs; whnf; arg 1; whnf)
       · conv => lhs; whnf; arg 1; whnf
       · rfl
       · rfl)
    | (apply y_onlit rfl rfl
       · conv => lhs; whnf
       · first | (conv => lhs; whnf; arg 1; whnf)
       · first | exact fun _ => rfl | (intro _; kernel_rfl)
       · conv => lhs; whnf
       · conv => lhs; whnf)
    | exact apartB_none
    | exact apartB_nil
    | exact all_nil
    | (show List.all _ _ = true; rfl)
    | (show apartB _ _ = true; rfl)
    | exact ([] : List Nat)
    | exact (1000000 : Nat)
    | (apply aw_cond_t
       · conv => lhs; whnf; arg 1; arg 1; whnf)
    | (apply aw_cond_f
       · conv => lhs; whnf; arg 1; arg 1; whnf)
    | (refine aw_cond (by conv => lhs; whnf) ?_ ?_ <;> intro hb)
    | refine aw_ret ?_
    | refine aw_exit ?_
    | refine k_seq_exit ?_
    | refine k_seq_ret ?_
    | refine k_block_ret ?_
    | refine k_block_hit rfl ?_
    | refine k_block_miss rfl ?_
    | refine k_scope_exit ?_
    | refine k_scope_ret ?_
    | refine k_loop_exit ?_
    | refine k_loop_ret ?_
    | refine k_end ?_
    | refine k_end_ret ?_
    | (refine ⟨_, by conv => lhs; whnf; arg 2; whnf, ?_⟩; conv => rhs; whnf)
    | exact trivial
    | intro hg)
          · have hlt : i < ts.length := by simpa using hb
            refine k_loop_next (j' := j - 1) (by omega) ⟨i + 1, by omega, Sub.live ⟨?_, rfl, rfl, rfl, trivial⟩ trivial⟩
            show V.c (.string (bs (([116, 121, 112, 101, 32] ++ tx (x.f 1).s) ++ dt ++ [32, 123, 10] ++ linesB (ts.take i)) ++ (⟨#[32, 32]⟩ ++ (gD (strsD ts) i).s ++ ⟨#[10]⟩))) = _
            rw [hel hlt, linesB_step hlt]
            simp only [lit_bs, bs_append, List.append_assoc]
          · exact i64_ok (by omega)
          all_goals try (have hq := hst hb; rw [show ((i : Int)).toNat = i from rfl, hel (by simpa using hb)]; simp only [ByteArray.size_append, bs_size, lit_size, tx_size, List.size_toArray, List.length_append, List.length_cons, List.length_nil, maxLen]; omega)
          all_goals try (show 0 ≤ (i : Int) ∧ (i : Int) < ((strsD ts).length : Int); rw [strsD_length]; simp at hb; omega)
          all_goals try (simp only [ByteArray.size_append, bs_size, lit_size, tx_size, List.size_toArray, List.length_append, List.length_cons, List.length_nil, maxLen]; omega)
          · have e2 : i = ts.length := by simp at hb; omega
            have hn1 : (x.f 0).n = 1 := by have h1 : ((x.f 0).n == 1) = true := by assumption
                                           simpa using h1
            have him : ¬ 0 < im.length := by
              have h9 : decide (((x.f 2).l.length : Int) > 0) = false := by assumption
              rw [hIm, strsD_length] at h9; simpa using h9
            unfold blockB headB
            rw [hn1, if_neg (fun h => him h.2), if_neg (by omega), e2, List.take_length]
            simp only [lit_bs, bs_append, List.append_assoc, List.nil_append]
            rfl
      all_goals try (simp only [ByteArray.size_append, bs_size, lit_size, tx_size, List.size_toArray, List.length_append, List.length_cons, List.length_nil, maxLen]; omega)
  · have hn : (x.f 0).n = 2 := by simp only [beq_iff_eq, decide_eq_true_eq, decide_eq_false_iff_not, beq_eq_false_iff_ne, bne_iff_ne, ne_eq, ge_iff_le, Bool.decide_eq_true, Bool.decide_eq_false, Bool.not_eq_true', beq_true, beq_false, Bool.not_eq_eq_eq_not, Bool.not_false, Bool.not_true] at *; omega
    obtain ⟨hlen, hf⟩ := hF (.inr hn)
    refine aw_sub (Sub.own (t := 3) (e := 9) rfl rfl) ?_
    refine aw_loop (fun j st => ∃ i, i + j = ts.length ∧ Sub (cx EN Tryd.prog s w he) st (H79L x ([105, 110, 116, 101, 114, 102, 97, 99, 101, 32] ++ tx (x.f 1).s) ts 85 64 (x.f 4).l i)) ts.length ⟨0, by omega, ?_⟩ ?_
    · refine Sub.live ⟨rfl, rfl, ?_, rfl, rfl, rfl, trivial⟩ ⟨rfl, rfl, trivial⟩
      show V.c (.string _) = V.c (.string _)
      simp only [lit_bs, ← bs_append, bs_tx, ByteArray.append_assoc]
    · rintro j st ⟨i, hij, hs2⟩
      refine aw_sub hs2 ?_
      have htk := strsD_take_len (ls := ts) (i := i) (by omega)
      have hi2 := fun (h : decide ((i : Int) < (x.f 4).l.length) = true) => hf i (by simpa using h)
      repeat' (first
    | refine aw_seq ?_
    | refine aw_region ?_
    | refine awo_nil ?_
    | refine k_seq ?_
    | refine k_block ?_
    | refine k_scope ?_
    | refine aw_block ?_
    | refine aw_skip ?_
    | refine aw_label ?_
    | refine aw_scope ?_
    | (apply s_val rfl
       · conv => lhs; whnf
       · conv => lhs; whnf; arg 2; whnf)
    | (apply s_call rfl
       · conv => lhs; whnf
       · conv => lhs; whnf
       · first | exact hT | exact hi2 (by assumption))
    | (apply s_box rfl rfl rfl rfl
       · conv => lhs; whnf; arg 1; whnf
       · rfl)
    | (apply s_alloc rfl rfl rfl rfl
       · conv => lhs; whnf; arg 1; whnf
       · rfl)
    | (apply s_store rfl rfl rfl
       · conv => lhs; whnf
       · conv => lhs; whnf; arg 1; whnf
       · conv => lhs; whnf; arg 1; whnf
       · exact ⟨by kernel_rfl, by kernel_rfl⟩
       · rfl)
    | (apply s_app rfl rfl
       · conv => lhs; whnf
       · first | exact elemStr | (conv => lhs; whnf; arg 1; whnf)
       · first | exact fun _ => rfl | (intro _; kernel_rfl)
       · conv => lhs; whnf
       · conv => lhs; whnf; arg 1; whnf
       · conv => lhs; whnf)
    | (apply s_app_nil rfl rfl rfl rfl
       · first | exact elemStr | (conv => lhs; whnf; arg 1; whnf)
       · first | exact fun _ => rfl | (intro _; kernel_rfl)
       · conv => lhs; whnf
       · conv => lhs; whnf)
    | (apply s_lit0 rfl rfl
       · conv => lhs; whnf
       · first | exact elemStr | (conv => lhs; whnf; arg 1; whnf))
    | (apply s_lit1 rfl rfl
       · conv => lhs; whnf
       · first | exact elemStr | (conv => lhs; whnf; arg 1; whnf)
       · conv => lhs; whnf; arg 1; whnf
       · rfl
       · rfl)
    | (apply s_onlit rfl rfl
       · conv => lhs; whnf
       · first | exact elemStr | (conv => lhs; whnf; arg 1; whnf)
       · first | exact fun _ => rfl | (intro _; kernel_rfl)
       · conv => lhs; whnf
       · conv => lhs; whnf)
    | (apply aw_draw (by kernel_rfl) (by kernel_rfl))
    | apply y_nil
    | (apply y_val rfl
       · conv => lhs; whnf
       · conv => lhs; whnf; arg 2; whnf)
    | (apply y_call rfl
       · conv => lhs; whnf
       · conv => lhs; whnf
       · first | exact hT | exact hi2 (by assumption))
    | (apply y_store rfl rfl rfl
       · conv => lhs; whnf
       · rfl
       · rfl
       · conv => lhs; whnf; arg 1; whnf
       · conv => lhs; whnf; arg 1; whnf
       · exact ⟨by kernel_rfl, by kernel_rfl⟩
       · rfl)
    | (apply y_app rfl rfl
       · conv => lhs; whnf
       · first | exact elemStr | (conv => lhs; whnf; arg 1; whnf)
       · first | exact fun _ => rfl | (intro _; kernel_rfl)
       · conv => lhs; whnf
       · rfl
       · rfl
       · conv => lhs; whnf; arg 1; whnf
       · conv => lhs; whnf)
    | (apply y_lit0 rfl rfl
       · conv => lhs; whnf
       · first | exact elemStr | (conv => lhs; whnf; arg 1; whnf))
    | (apply y_lit1 rfl rfl
       · conv => lhs; whnf
       · first | exact elemStr | (conv => lhs; whnf; arg 1; whnf)
       · conv => lhs; whnf; arg 1; whnf
       · rfl
       · rfl)
    | (apply y_onlit rfl rfl
       · conv => lhs; whnf
       · first | exact elemStr | (conv => lhs; whnf; arg 1; whnf)
       · first | exact fun _ => rfl | (intro _; kernel_rfl)
       · conv => lhs; whnf
       · conv => lhs; whnf)
    | exact apartB_none
    | exact apartB_nil
    | exact all_nil
    | (show List.all _ _ = true; rfl)
    | (show apartB _ _ = true; rfl)
    | exact ([] : List Nat)
    | exact (1000000 : Nat)
    | (apply aw_cond_t
       · conv => lhs; whnf; arg 1; arg 1; whnf)
    | (apply aw_cond_f
       · conv => lhs; whnf; arg 1; arg 1; whnf)
    | (refine aw_cond (by conv => lhs; whnf) ?_ ?_ <;> intro hb)
    | refine aw_ret ?_
    | refine aw_exit ?_
    | refine k_seq_exit ?_
    | refine k_seq_ret ?_
    | refine k_block_ret ?_
    | refine k_block_hit rfl ?_
    | refine k_block_miss rfl ?_
    | refine k_scope_exit ?_
    | refine k_scope_ret ?_
    | refine k_loop_exit ?_
    | refine k_loop_ret ?_
    | refine k_end ?_
    | refine k_end_ret ?_
    | (refine ⟨_, by conv => lhs; whnf; arg 2; whnf, ?_⟩; conv => rhs; whnf)
    | exact trivial
    | intro hg)
      · have hb : decide ((i : Int) < (x.f 4).l.length) = true := hb
        have hlt : i < ts.length := by simp at hb; omega
        refine k_loop_next (j' := j - 1) (by omega) ⟨i + 1, by omega, Sub.live ⟨rfl, ?_, rfl, rfl, rfl, rfl, trivial⟩ ⟨rfl, ?_, trivial⟩⟩
        · show V.own 3 _ (strsD (ts.take i) ++ [.str (bs (gU ts i))]) = _
          rw [strsD_take hlt]
        · show some (Res.tok _ ((strsD (ts.take i)).length + 1)) = _
          rw [strsD_take hlt, List.length_append]; rfl
      · exact i64_ok (by omega)
      · rw [htk]; simp only [List.length_cons, List.length_nil, maxLen]; omega
      · show 0 ≤ (i : Int) ∧ (i : Int) < ((x.f 4).l.length : Int)
        have hb : decide ((i : Int) < (x.f 4).l.length) = true := hb
        simp at hb; omega
      ·
        have e : i = ts.length := by
          have hb : decide ((i : Int) < (x.f 4).l.length) = false := hb
          simp at hb; omega
        refine aw_loop (fun j st => ∃ i, i + j = ts.length ∧ Sub (cx EN Tryd.prog s w he) st (H79T (([105, 110, 116, 101, 114, 102, 97, 99, 101, 32] ++ tx (x.f 1).s) ++ dt ++ [32, 123, 10]) ts i)) ts.length ⟨0, by omega, ?_⟩ ?_
        · refine Sub.live ⟨?_, ?_, ?_, rfl, trivial⟩ trivial
          · show V.c (.string (bs ([105, 110, 116, 101, 114, 102, 97, 99, 101, 32] ++ tx (x.f 1).s) ++ bs dt ++ ⟨#[32, 123, 10]⟩)) = _
            simp only [lit_bs, bs_append, List.take_zero, linesB_nil, List.append_nil]
          · show V.own 3 _ (strsD (ts.take i)) = _
            rw [e, List.take_length]
          · show V.c (.int .i64 ((strsD (ts.take i)).length : Int)) = _
            rw [htk, e]
        · rintro j st ⟨i, hij, hs2⟩
          refine aw_sub hs2 ?_
          have hst := fun (h : decide ((i : Int) < (ts.length : Int)) = true) => linesB_size (ts := ts) (i := i) (by simpa using h) hl
          have hel : i < ts.length → (gD (strsD ts) i).s = bs (gU ts i) := fun h => strsD_get h
          have hm0 := linesB_mono ts i
          repeat' (first
    | refine aw_seq ?_
    | refine aw_region ?_
    | refine awo_nil ?_
    | refine k_seq ?_
    | refine k_block ?_
    | refine k_scope ?_
    | refine aw_block ?_
    | refine aw_skip ?_
    | refine aw_label ?_
    | refine aw_scope ?_
    | (apply s_val rfl
       · conv => lhs; whnf
       · conv => lhs; whnf; arg 2; whnf)
    | (apply s_call rfl
       · conv => lhs; whnf
       · conv => lhs; whnf
       · first | fail)
    | (apply s_box rfl rfl rfl rfl
       · conv => lhs; whnf; arg 1; whnf
       · rfl)
    | (apply s_alloc rfl rfl rfl rfl
       · conv => lhs; whnf; arg 1; whnf
       · rfl)
    | (apply s_store rfl rfl rfl
       · conv => lhs; whnf
       · conv => lhs; whnf; arg 1; whnf
       · conv => lhs; whnf; arg 1; whnf
       · exact ⟨by kernel_rfl, by kernel_rfl⟩
       · rfl)
    | (apply s_app rfl rfl
       · conv => lhs; whnf
       · first | (conv => lhs; whnf; arg 1; whnf)
       · first | exact fun _ => rfl | (intro _; kernel_rfl)
       · conv => lhs; whnf
       · conv => lhs; whnf; arg 1; whnf
       · conv => lhs; whnf)
    | (apply s_app_nil rfl rfl rfl rfl
       · first | (conv => lhs; whnf; arg 1; whnf)
       · first | exact fun _ => rfl | (intro _; kernel_rfl)
       · conv => lhs; whnf
       · conv => lhs; whnf)
    | (apply s_lit0 rfl rfl
       · conv => lhs; whnf
       · first | (conv => lhs; whnf; arg 1; whnf))
    | (apply s_lit1 rfl rfl
       · conv => lhs; whnf
       · first | (conv => lhs; whnf; arg 1; whnf)
       · conv => lhs; whnf; arg 1; whnf
       · rfl
       · rfl)
    | (apply s_onlit rfl rfl
       · conv => lhs; whnf
       · first | (conv => lhs; whnf; arg 1; whnf)
       · first | exact fun _ => rfl | (intro _; kernel_rfl)
       · conv => lhs; whnf
       · conv => lhs; whnf)
    | (apply aw_draw (by kernel_rfl) (by kernel_rfl))
    | apply y_nil
    | (apply y_val rfl
       · conv => lhs; whnf
       · conv => lhs; whnf; arg 2; whnf)
    | (apply y_call rfl
       · conv => lhs; whnf
       · conv => lhs; whnf
       · first | fail)
    | (apply y_store rfl rfl rfl
       · conv => lhs; whnf
       · rfl
       · rfl
       · conv => lhs; whnf; arg 1; whnf
       · conv => lhs; whnf; arg 1; whnf
       · exact ⟨by kernel_rfl, by kernel_rfl⟩
       · rfl)
    | (apply y_app rfl rfl
       · conv => lhs; whnf
       · first | (conv => lhs; whnf; arg 1; whnf)
       · first | exact fun _ => rfl | (intro _; kernel_rfl)
       · conv => lhs; whnf
       · rfl
       · rfl
       · conv => lhs; whnf; arg 1; whnf
       · conv => lhs; whnf)
    | (apply y_lit0 rfl rfl
       · conv => lhs; whnf
       · first | (conv => lhs; whnf; arg 1; whnf))
    | (apply y_lit1 rfl rfl
       · conv => lhs; whnf
       · first | (conv => lhs; whnf; arg 1; whnf)
       · conv => lhs; whnf; arg 1; whnf
       · rfl
       · rfl)
    | (apply y_onlit rfl rfl
       · conv => lhs; whnf
       · first | (conv => lhs; whnf; arg 1; whnf)
       · first | exact fun _ => rfl | (intro _; kernel_rfl)
       · conv => lhs; whnf
       · conv => lhs; whnf)
    | exact apartB_none
    | exact apartB_nil
    | exact all_nil
    | (show List.all _ _ = true; rfl)
    | (show apartB _ _ = true; rfl)
    | exact ([] : List Nat)
    | exact (1000000 : Nat)
    | (apply aw_cond_t
       · conv => lhs; whnf; arg 1; arg 1; whnf)
    | (apply aw_cond_f
       · conv => lhs; whnf; arg 1; arg 1; whnf)
    | (refine aw_cond (by conv => lhs; whnf) ?_ ?_ <;> intro hb)
    | refine aw_ret ?_
    | refine aw_exit ?_
    | refine k_seq_exit ?_
    | refine k_seq_ret ?_
    | refine k_block_ret ?_
    | refine k_block_hit rfl ?_
    | refine k_block_miss rfl ?_
    | refine k_scope_exit ?_
    | refine k_scope_ret ?_
    | refine k_loop_exit ?_
    | refine k_loop_ret ?_
    | refine k_end ?_
    | refine k_end_ret ?_
    | (refine ⟨_, by conv => lhs; whnf; arg 2; whnf, ?_⟩; conv => rhs; whnf)
    | exact trivial
    | intro hg)
          · have hlt : i < ts.length := by simpa using hb
            refine k_loop_next (j' := j - 1) (by omega) ⟨i + 1, by omega, Sub.live ⟨?_, rfl, rfl, rfl, trivial⟩ trivial⟩
            show V.c (.string (bs (([105, 110, 116, 101, 114, 102, 97, 99, 101, 32] ++ tx (x.f 1).s) ++ dt ++ [32, 123, 10] ++ linesB (ts.take i)) ++ (⟨#[32, 32]⟩ ++ (gD (strsD ts) i).s ++ ⟨#[10]⟩))) = _
            rw [hel hlt, linesB_step hlt]
            simp only [lit_bs, bs_append, List.append_assoc]
          · exact i64_ok (by omega)
          all_goals try (have hq := hst hb; rw [show ((i : Int)).toNat = i from rfl, hel (by simpa using hb)]; simp only [ByteArray.size_append, bs_size, lit_size, tx_size, List.size_toArray, List.length_append, List.length_cons, List.length_nil, maxLen]; omega)
          all_goals try (show 0 ≤ (i : Int) ∧ (i : Int) < ((strsD ts).length : Int); rw [strsD_length]; simp at hb; omega)
          all_goals try (simp only [ByteArray.size_append, bs_size, lit_size, tx_size, List.size_toArray, List.length_append, List.length_cons, List.length_nil, maxLen]; omega)
          · have e2 : i = ts.length := by simp at hb; omega
            unfold blockB headB
            rw [hn, if_neg (fun h => absurd h.1 (by omega)), if_neg (by omega), e2, List.take_length]
            simp only [lit_bs, bs_append, List.append_assoc, List.nil_append]
            rfl
      all_goals try (simp only [ByteArray.size_append, bs_size, lit_size, tx_size, List.size_toArray, List.length_append, List.length_cons, List.length_nil, maxLen]; omega)
  · have hn : (x.f 0).n = 4 := by simp only [beq_iff_eq, decide_eq_true_eq, decide_eq_false_iff_not, beq_eq_false_iff_ne, bne_iff_ne, ne_eq, ge_iff_le, Bool.decide_eq_true, Bool.decide_eq_false, Bool.not_eq_true', beq_true, beq_false, Bool.not_eq_eq_eq_not, Bool.not_false, Bool.not_true] at *; omega
    obtain ⟨hlen, hf⟩ := hE hn
    refine aw_sub (Sub.own (t := 3) (e := 9) rfl rfl) ?_
    refine aw_loop (fun j st => ∃ i, i + j = ts.length ∧ Sub (cx EN Tryd.prog s w he) st (H79L x ([101, 110, 117, 109, 32] ++ tx (x.f 1).s) ts 103 112 (x.f 5).l i)) ts.length ⟨0, by omega, ?_⟩ ?_
    · refine Sub.live ⟨rfl, rfl, ?_, rfl, rfl, rfl, trivial⟩ ⟨rfl, rfl, trivial⟩
      show V.c (.string _) = V.c (.string _)
      simp only [lit_bs, ← bs_append, bs_tx, ByteArray.append_assoc]
    · rintro j st ⟨i, hij, hs2⟩
      refine aw_sub hs2 ?_
      have htk := strsD_take_len (ls := ts) (i := i) (by omega)
      have hi2 := fun (h : decide ((i : Int) < (x.f 5).l.length) = true) => hf i (by simpa using h)
      repeat' (first
    | refine aw_seq ?_
    | refine aw_region ?_
    | refine awo_nil ?_
    | refine k_seq ?_
    | refine k_block ?_
    | refine k_scope ?_
    | refine aw_block ?_
    | refine aw_skip ?_
    | refine aw_label ?_
    | refine aw_scope ?_
    | (apply s_val rfl
       · conv => lhs; whnf
       · conv => lhs; whnf; arg 2; whnf)
    | (apply s_call rfl
       · conv => lhs; whnf
       · conv => lhs; whnf
       · first | exact hT | exact (hi2 (by assumption)).1)
    | (apply s_box rfl rfl rfl rfl
       · conv => lhs; whnf; arg 1; whnf
       · rfl)
    | (apply s_alloc rfl rfl rfl rfl
       · conv => lhs; whnf; arg 1; whnf
       · rfl)
    | (apply s_store rfl rfl rfl
       · conv => lhs; whnf
       · conv => lhs; whnf; arg 1; whnf
       · conv => lhs; whnf; arg 1; whnf
       · exact ⟨by kernel_rfl, by kernel_rfl⟩
       · rfl)
    | (apply s_app rfl rfl
       · conv => lhs; whnf
       · first | exact elemStr | (conv => lhs; whnf; arg 1; whnf)
       · first | exact fun _ => rfl | (intro _; kernel_rfl)
       · conv => lhs; whnf
       · conv => lhs; whnf; arg 1; whnf
       · conv => lhs; whnf)
    | (apply s_app_nil rfl rfl rfl rfl
       · first | exact elemStr | (conv => lhs; whnf; arg 1; whnf)
       · first | exact fun _ => rfl | (intro _; kernel_rfl)
       · conv => lhs; whnf
       · conv => lhs; whnf)
    | (apply s_lit0 rfl rfl
       · conv => lhs; whnf
       · first | exact elemStr | (conv => lhs; whnf; arg 1; whnf))
    | (apply s_lit1 rfl rfl
       · conv => lhs; whnf
       · first | exact elemStr | (conv => lhs; whnf; arg 1; whnf)
       · conv => lhs; whnf; arg 1; whnf
       · rfl
       · rfl)
    | (apply s_onlit rfl rfl
       · conv => lhs; whnf
       · first | exact elemStr | (conv => lhs; whnf; arg 1; whnf)
       · first | exact fun _ => rfl | (intro _; kernel_rfl)
       · conv => lhs; whnf
       · conv => lhs; whnf)
    | (apply aw_draw (by kernel_rfl) (by kernel_rfl))
    | apply y_nil
    | (apply y_val rfl
       · conv => lhs; whnf
       · conv => lhs; whnf; arg 2; whnf)
    | (apply y_call rfl
       · conv => lhs; whnf
       · conv => lhs; whnf
       · first | exact hT | exact (hi2 (by assumption)).1)
    | (apply y_store rfl rfl rfl
       · conv => lhs; whnf
       · rfl
       · rfl
       · conv => lhs; whnf; arg 1; whnf
       · conv => lhs; whnf; arg 1; whnf
       · exact ⟨by kernel_rfl, by kernel_rfl⟩
       · rfl)
    | (apply y_app rfl rfl
       · conv => lhs; whnf
       · first | exact elemStr | (conv => lhs; whnf; arg 1; whnf)
       · first | exact fun _ => rfl | (intro _; kernel_rfl)
       · conv => lhs; whnf
       · rfl
       · rfl
       · conv => lhs; whnf; arg 1; whnf
       · conv => lhs; whnf)
    | (apply y_lit0 rfl rfl
       · conv => lhs; whnf
       · first | exact elemStr | (conv => lhs; whnf; arg 1; whnf))
    | (apply y_lit1 rfl rfl
       · conv => lhs; whnf
       · first | exact elemStr | (conv => lhs; whnf; arg 1; whnf)
       · conv => lhs; whnf; arg 1; whnf
       · rfl
       · rfl)
    | (apply y_onlit rfl rfl
       · conv => lhs; whnf
       · first | exact elemStr | (conv => lhs; whnf; arg 1; whnf)
       · first | exact fun _ => rfl | (intro _; kernel_rfl)
       · conv => lhs; whnf
       · conv => lhs; whnf)
    | exact apartB_none
    | exact apartB_nil
    | exact all_nil
    | (show List.all _ _ = true; rfl)
    | (show apartB _ _ = true; rfl)
    | exact ([] : List Nat)
    | exact (1000000 : Nat)
    | (apply aw_cond_t
       · conv => lhs; whnf; arg 1; arg 1; whnf)
    | (apply aw_cond_f
       · conv => lhs; whnf; arg 1; arg 1; whnf)
    | (refine aw_cond (by conv => lhs; whnf) ?_ ?_ <;> intro hb)
    | refine aw_ret ?_
    | refine aw_exit ?_
    | refine k_seq_exit ?_
    | refine k_seq_ret ?_
    | refine k_block_ret ?_
    | refine k_block_hit rfl ?_
    | refine k_block_miss rfl ?_
    | refine k_scope_exit ?_
    | refine k_scope_ret ?_
    | refine k_loop_exit ?_
    | refine k_loop_ret ?_
    | refine k_end ?_
    | refine k_end_ret ?_
    | (refine ⟨_, by conv => lhs; whnf; arg 2; whnf, ?_⟩; conv => rhs; whnf)
    | exact trivial
    | intro hg)
      · have hb : decide ((i : Int) < (x.f 5).l.length) = true := hb
        have hlt : i < ts.length := by simp at hb; omega
        refine k_loop_next (j' := j - 1) (by omega) ⟨i + 1, by omega, Sub.live ⟨rfl, ?_, rfl, rfl, rfl, rfl, trivial⟩ ⟨rfl, ?_, trivial⟩⟩
        · show V.own 3 _ (strsD (ts.take i) ++ [.str (((gD (x.f 5).l i).f 0).s ++ bs (gU ds i))]) = _
          rw [strsD_take hlt, (hi2 hb).2, ← bs_append, bs_tx]
        · show some (Res.tok _ ((strsD (ts.take i)).length + 1)) = _
          rw [strsD_take hlt, List.length_append]; rfl
      · exact i64_ok (by omega)
      all_goals try (have hq2 := congrArg List.length (hi2 (by assumption)).2; have hq3 := gU_le_lines (ts := ts) (i := i) hl; simp only [List.length_append, tx_size] at hq2; (simp only [ByteArray.size_append, bs_size, lit_size, List.size_toArray, List.length_append, List.length_cons, List.length_nil, maxLen, Nat.reduceAdd, Int.toNat_natCast]; omega))
      all_goals try (rw [htk]; simp only [List.length_cons, List.length_nil, maxLen]; omega)
      · show 0 ≤ (i : Int) ∧ (i : Int) < ((x.f 5).l.length : Int)
        have hb : decide ((i : Int) < (x.f 5).l.length) = true := hb
        simp at hb; omega
      ·
        have e : i = ts.length := by
          have hb : decide ((i : Int) < (x.f 5).l.length) = false := hb
          simp at hb; omega
        refine aw_loop (fun j st => ∃ i, i + j = ts.length ∧ Sub (cx EN Tryd.prog s w he) st (H79T (([101, 110, 117, 109, 32] ++ tx (x.f 1).s) ++ dt ++ [32, 123, 10]) ts i)) ts.length ⟨0, by omega, ?_⟩ ?_
        · refine Sub.live ⟨?_, ?_, ?_, rfl, trivial⟩ trivial
          · show V.c (.string (bs ([101, 110, 117, 109, 32] ++ tx (x.f 1).s) ++ bs dt ++ ⟨#[32, 123, 10]⟩)) = _
            simp only [lit_bs, bs_append, List.take_zero, linesB_nil, List.append_nil]
          · show V.own 3 _ (strsD (ts.take i)) = _
            rw [e, List.take_length]
          · show V.c (.int .i64 ((strsD (ts.take i)).length : Int)) = _
            rw [htk, e]
        · rintro j st ⟨i, hij, hs2⟩
          refine aw_sub hs2 ?_
          have hst := fun (h : decide ((i : Int) < (ts.length : Int)) = true) => linesB_size (ts := ts) (i := i) (by simpa using h) hl
          have hel : i < ts.length → (gD (strsD ts) i).s = bs (gU ts i) := fun h => strsD_get h
          have hm0 := linesB_mono ts i
          repeat' (first
    | refine aw_seq ?_
    | refine aw_region ?_
    | refine awo_nil ?_
    | refine k_seq ?_
    | refine k_block ?_
    | refine k_scope ?_
    | refine aw_block ?_
    | refine aw_skip ?_
    | refine aw_label ?_
    | refine aw_scope ?_
    | (apply s_val rfl
       · conv => lhs; whnf
       · conv => lhs; whnf; arg 2; whnf)
    | (apply s_call rfl
       · conv => lhs; whnf
       · conv => lhs; whnf
       · first | fail)
    | (apply s_box rfl rfl rfl rfl
       · conv => lhs; whnf; arg 1; whnf
       · rfl)
    | (apply s_alloc rfl rfl rfl rfl
       · conv => lhs; whnf; arg 1; whnf
       · rfl)
    | (apply s_store rfl rfl rfl
       · conv => lhs; whnf
       · conv => lhs; whnf; arg 1; whnf
       · conv => lhs; whnf; arg 1; whnf
       · exact ⟨by kernel_rfl, by kernel_rfl⟩
       · rfl)
    | (apply s_app rfl rfl
       · conv => lhs; whnf
       · first | (conv => lhs; whnf; arg 1; whnf)
       · first | exact fun _ => rfl | (intro _; kernel_rfl)
       · conv => lhs; whnf
       · conv => lhs; whnf; arg 1; whnf
       · conv => lhs; whnf)
    | (apply s_app_nil rfl rfl rfl rfl
       · first | (conv => lhs; whnf; arg 1; whnf)
       · first | exact fun _ => rfl | (intro _; kernel_rfl)
       · conv => lhs; whnf
       · conv => lhs; whnf)
    | (apply s_lit0 rfl rfl
       · conv => lhs; whnf
       · first | (conv => lhs; whnf; arg 1; whnf))
    | (apply s_lit1 rfl rfl
       · conv => lhs; whnf
       · first | (conv => lhs; whnf; arg 1; whnf)
       · conv => lhs; whnf; arg 1; whnf
       · rfl
       · rfl)
    | (apply s_onlit rfl rfl
       · conv => lhs; whnf
       · first | (conv => lhs; whnf; arg 1; whnf)
       · first | exact fun _ => rfl | (intro _; kernel_rfl)
       · conv => lhs; whnf
       · conv => lhs; whnf)
    | (apply aw_draw (by kernel_rfl) (by kernel_rfl))
    | apply y_nil
    | (apply y_val rfl
       · conv => lhs; whnf
       · conv => lhs; whnf; arg 2; whnf)
    | (apply y_call rfl
       · conv => lhs; whnf
       · conv => lhs; whnf
       · first | fail)
    | (apply y_store rfl rfl rfl
       · conv => lhs; whnf
       · rfl
       · rfl
       · conv => lhs; whnf; arg 1; whnf
       · conv => lhs; whnf; arg 1; whnf
       · exact ⟨by kernel_rfl, by kernel_rfl⟩
       · rfl)
    | (apply y_app rfl rfl
       · conv => lhs; whnf
       · first | (conv => lhs; whnf; arg 1; whnf)
       · first | exact fun _ => rfl | (intro _; kernel_rfl)
       · conv => lhs; whnf
       · rfl
       · rfl
       · conv => lhs; whnf; arg 1; whnf
       · conv => lhs; whnf)
    | (apply y_lit0 rfl rfl
       · conv => lhs; whnf
       · first | (conv => lhs; whnf; arg 1; whnf))
    | (apply y_lit1 rfl rfl
       · conv => lhs; whnf
       · first | (conv => lhs; whnf; arg 1; whnf)
       · conv => lhs; whnf; arg 1; whnf
       · rfl
       · rfl)
    | (apply y_onlit rfl rfl
       · conv => lhs; whnf
       · first | (conv => lhs; whnf; arg 1; whnf)
       · first | exact fun _ => rfl | (intro _; kernel_rfl)
       · conv => lhs; whnf
       · conv => lhs; whnf)
    | exact apartB_none
    | exact apartB_nil
    | exact all_nil
    | (show List.all _ _ = true; rfl)
    | (show apartB _ _ = true; rfl)
    | exact ([] : List Nat)
    | exact (1000000 : Nat)
    | (apply aw_cond_t
       · conv => lhs; whnf; arg 1; arg 1; whnf)
    | (apply aw_cond_f
       · conv => lhs; whnf; arg 1; arg 1; whnf)
    | (refine aw_cond (by conv => lhs; whnf) ?_ ?_ <;> intro hb)
    | refine aw_ret ?_
    | refine aw_exit ?_
    | refine k_seq_exit ?_
    | refine k_seq_ret ?_
    | refine k_block_ret ?_
    | refine k_block_hit rfl ?_
    | refine k_block_miss rfl ?_
    | refine k_scope_exit ?_
    | refine k_scope_ret ?_
    | refine k_loop_exit ?_
    | refine k_loop_ret ?_
    | refine k_end ?_
    | refine k_end_ret ?_
    | (refine ⟨_, by conv => lhs; whnf; arg 2; whnf, ?_⟩; conv => rhs; whnf)
    | exact trivial
    | intro hg)
          · have hlt : i < ts.length := by simpa using hb
            refine k_loop_next (j' := j - 1) (by omega) ⟨i + 1, by omega, Sub.live ⟨?_, rfl, rfl, rfl, trivial⟩ trivial⟩
            show V.c (.string (bs (([101, 110, 117, 109, 32] ++ tx (x.f 1).s) ++ dt ++ [32, 123, 10] ++ linesB (ts.take i)) ++ (⟨#[32, 32]⟩ ++ (gD (strsD ts) i).s ++ ⟨#[10]⟩))) = _
            rw [hel hlt, linesB_step hlt]
            simp only [lit_bs, bs_append, List.append_assoc]
          · exact i64_ok (by omega)
          all_goals try (have hq := hst hb; rw [show ((i : Int)).toNat = i from rfl, hel (by simpa using hb)]; simp only [ByteArray.size_append, bs_size, lit_size, tx_size, List.size_toArray, List.length_append, List.length_cons, List.length_nil, maxLen]; omega)
          all_goals try (show 0 ≤ (i : Int) ∧ (i : Int) < ((strsD ts).length : Int); rw [strsD_length]; simp at hb; omega)
          all_goals try (simp only [ByteArray.size_append, bs_size, lit_size, tx_size, List.size_toArray, List.length_append, List.length_cons, List.length_nil, maxLen]; omega)
          · have e2 : i = ts.length := by simp at hb; omega
            unfold blockB headB
            rw [hn, if_neg (fun h => absurd h.1 (by omega)), if_neg (by omega), e2, List.take_length]
            simp only [lit_bs, bs_append, List.append_assoc, List.nil_append]
            rfl
      all_goals try (simp only [ByteArray.size_append, bs_size, lit_size, tx_size, List.size_toArray, List.length_append, List.length_cons, List.length_nil, maxLen]; omega)
  · have hn : (x.f 0).n = 5 := by simp only [beq_iff_eq, decide_eq_true_eq, decide_eq_false_iff_not, beq_eq_false_iff_ne, bne_iff_ne, ne_eq, ge_iff_le, Bool.decide_eq_true, Bool.decide_eq_false, Bool.not_eq_true', beq_true, beq_false, Bool.not_eq_eq_eq_not, Bool.not_false, Bool.not_true] at *; omega
    obtain ⟨hlen, hf⟩ := hI hn
    refine aw_sub (Sub.own (t := 3) (e := 9) rfl rfl) ?_
    refine aw_loop (fun j st => ∃ i, i + j = ts.length ∧ Sub (cx EN Tryd.prog s w he) st (H79L x ([105, 110, 112, 117, 116, 32] ++ tx (x.f 1).s) ts 23 132 (x.f 6).l i)) ts.length ⟨0, by omega, ?_⟩ ?_
    · refine Sub.live ⟨rfl, rfl, ?_, rfl, rfl, rfl, trivial⟩ ⟨rfl, rfl, trivial⟩
      show V.c (.string _) = V.c (.string _)
      simp only [lit_bs, ← bs_append, bs_tx, ByteArray.append_assoc]
    · rintro j st ⟨i, hij, hs2⟩
      refine aw_sub hs2 ?_
      have htk := strsD_take_len (ls := ts) (i := i) (by omega)
      have hi2 := fun (h : decide ((i : Int) < (x.f 6).l.length) = true) => hf i (by simpa using h)
      repeat' (first
    | refine aw_seq ?_
    | refine aw_region ?_
    | refine awo_nil ?_
    | refine k_seq ?_
    | refine k_block ?_
    | refine k_scope ?_
    | refine aw_block ?_
    | refine aw_skip ?_
    | refine aw_label ?_
    | refine aw_scope ?_
    | (apply s_val rfl
       · conv => lhs; whnf
       · conv => lhs; whnf; arg 2; whnf)
    | (apply s_call rfl
       · conv => lhs; whnf
       · conv => lhs; whnf
       · first | exact hT | exact hi2 (by assumption))
    | (apply s_box rfl rfl rfl rfl
       · conv => lhs; whnf; arg 1; whnf
       · rfl)
    | (apply s_alloc rfl rfl rfl rfl
       · conv => lhs; whnf; arg 1; whnf
       · rfl)
    | (apply s_store rfl rfl rfl
       · conv => lhs; whnf
       · conv => lhs; whnf; arg 1; whnf
       · conv => lhs; whnf; arg 1; whnf
       · exact ⟨by kernel_rfl, by kernel_rfl⟩
       · rfl)
    | (apply s_app rfl rfl
       · conv => lhs; whnf
       · first | exact elemStr | (conv => lhs; whnf; arg 1; whnf)
       · first | exact fun _ => rfl | (intro _; kernel_rfl)
       · conv => lhs; whnf
       · conv => lhs; whnf; arg 1; whnf
       · conv => lhs; whnf)
    | (apply s_app_nil rfl rfl rfl rfl
       · first | exact elemStr | (conv => lhs; whnf; arg 1; whnf)
       · first | exact fun _ => rfl | (intro _; kernel_rfl)
       · conv => lhs; whnf
       · conv => lhs; whnf)
    | (apply s_lit0 rfl rfl
       · conv => lhs; whnf
       · first | exact elemStr | (conv => lhs; whnf; arg 1; whnf))
    | (apply s_lit1 rfl rfl
       · conv => lhs; whnf
       · first | exact elemStr | (conv => lhs; whnf; arg 1; whnf)
       · conv => lhs; whnf; arg 1; whnf
       · rfl
       · rfl)
    | (apply s_onlit rfl rfl
       · conv => lhs; whnf
       · first | exact elemStr | (conv => lhs; whnf; arg 1; whnf)
       · first | exact fun _ => rfl | (intro _; kernel_rfl)
       · conv => lhs; whnf
       · conv => lhs; whnf)
    | (apply aw_draw (by kernel_rfl) (by kernel_rfl))
    | apply y_nil
    | (apply y_val rfl
       · conv => lhs; whnf
       · conv => lhs; whnf; arg 2; whnf)
    | (apply y_call rfl
       · conv => lhs; whnf
       · conv => lhs; whnf
       · first | exact hT | exact hi2 (by assumption))
    | (apply y_store rfl rfl rfl
       · conv => lhs; whnf
       · rfl
       · rfl
       · conv => lhs; whnf; arg 1; whnf
       · conv => lhs; whnf; arg 1; whnf
       · exact ⟨by kernel_rfl, by kernel_rfl⟩
       · rfl)
    | (apply y_app rfl rfl
       · conv => lhs; whnf
       · first | exact elemStr | (conv => lhs; whnf; arg 1; whnf)
       · first | exact fun _ => rfl | (intro _; kernel_rfl)
       · conv => lhs; whnf
       · rfl
       · rfl
       · conv => lhs; whnf; arg 1; whnf
       · conv => lhs; whnf)
    | (apply y_lit0 rfl rfl
       · conv => lhs; whnf
       · first | exact elemStr | (conv => lhs; whnf; arg 1; whnf))
    | (apply y_lit1 rfl rfl
       · conv => lhs; whnf
       · first | exact elemStr | (conv => lhs; whnf; arg 1; whnf)
       · conv => lhs; whnf; arg 1; whnf
       · rfl
       · rfl)
    | (apply y_onlit rfl rfl
       · conv => lhs; whnf
       · first | exact elemStr | (conv => lhs; whnf; arg 1; whnf)
       · first | exact fun _ => rfl | (intro _; kernel_rfl)
       · conv => lhs; whnf
       · conv => lhs; whnf)
    | exact apartB_none
    | exact apartB_nil
    | exact all_nil
    | (show List.all _ _ = true; rfl)
    | (show apartB _ _ = true; rfl)
    | exact ([] : List Nat)
    | exact (1000000 : Nat)
    | (apply aw_cond_t
       · conv => lhs; whnf; arg 1; arg 1; whnf)
    | (apply aw_cond_f
       · conv => lhs; whnf; arg 1; arg 1; whnf)
    | (refine aw_cond (by conv => lhs; whnf) ?_ ?_ <;> intro hb)
    | refine aw_ret ?_
    | refine aw_exit ?_
    | refine k_seq_exit ?_
    | refine k_seq_ret ?_
    | refine k_block_ret ?_
    | refine k_block_hit rfl ?_
    | refine k_block_miss rfl ?_
    | refine k_scope_exit ?_
    | refine k_scope_ret ?_
    | refine k_loop_exit ?_
    | refine k_loop_ret ?_
    | refine k_end ?_
    | refine k_end_ret ?_
    | (refine ⟨_, by conv => lhs; whnf; arg 2; whnf, ?_⟩; conv => rhs; whnf)
    | exact trivial
    | intro hg)
      · have hb : decide ((i : Int) < (x.f 6).l.length) = true := hb
        have hlt : i < ts.length := by simp at hb; omega
        refine k_loop_next (j' := j - 1) (by omega) ⟨i + 1, by omega, Sub.live ⟨rfl, ?_, rfl, rfl, rfl, rfl, trivial⟩ ⟨rfl, ?_, trivial⟩⟩
        · show V.own 3 _ (strsD (ts.take i) ++ [.str (bs (gU ts i))]) = _
          rw [strsD_take hlt]
        · show some (Res.tok _ ((strsD (ts.take i)).length + 1)) = _
          rw [strsD_take hlt, List.length_append]; rfl
      · exact i64_ok (by omega)
      · rw [htk]; simp only [List.length_cons, List.length_nil, maxLen]; omega
      · show 0 ≤ (i : Int) ∧ (i : Int) < ((x.f 6).l.length : Int)
        have hb : decide ((i : Int) < (x.f 6).l.length) = true := hb
        simp at hb; omega
      ·
        have e : i = ts.length := by
          have hb : decide ((i : Int) < (x.f 6).l.length) = false := hb
          simp at hb; omega
        refine aw_loop (fun j st => ∃ i, i + j = ts.length ∧ Sub (cx EN Tryd.prog s w he) st (H79T (([105, 110, 112, 117, 116, 32] ++ tx (x.f 1).s) ++ dt ++ [32, 123, 10]) ts i)) ts.length ⟨0, by omega, ?_⟩ ?_
        · refine Sub.live ⟨?_, ?_, ?_, rfl, trivial⟩ trivial
          · show V.c (.string (bs ([105, 110, 112, 117, 116, 32] ++ tx (x.f 1).s) ++ bs dt ++ ⟨#[32, 123, 10]⟩)) = _
            simp only [lit_bs, bs_append, List.take_zero, linesB_nil, List.append_nil]
          · show V.own 3 _ (strsD (ts.take i)) = _
            rw [e, List.take_length]
          · show V.c (.int .i64 ((strsD (ts.take i)).length : Int)) = _
            rw [htk, e]
        · rintro j st ⟨i, hij, hs2⟩
          refine aw_sub hs2 ?_
          have hst := fun (h : decide ((i : Int) < (ts.length : Int)) = true) => linesB_size (ts := ts) (i := i) (by simpa using h) hl
          have hel : i < ts.length → (gD (strsD ts) i).s = bs (gU ts i) := fun h => strsD_get h
          have hm0 := linesB_mono ts i
          repeat' (first
    | refine aw_seq ?_
    | refine aw_region ?_
    | refine awo_nil ?_
    | refine k_seq ?_
    | refine k_block ?_
    | refine k_scope ?_
    | refine aw_block ?_
    | refine aw_skip ?_
    | refine aw_label ?_
    | refine aw_scope ?_
    | (apply s_val rfl
       · conv => lhs; whnf
       · conv => lhs; whnf; arg 2; whnf)
    | (apply s_call rfl
       · conv => lhs; whnf
       · conv => lhs; whnf
       · first | fail)
    | (apply s_box rfl rfl rfl rfl
       · conv => lhs; whnf; arg 1; whnf
       · rfl)
    | (apply s_alloc rfl rfl rfl rfl
       · conv => lhs; whnf; arg 1; whnf
       · rfl)
    | (apply s_store rfl rfl rfl
       · conv => lhs; whnf
       · conv => lhs; whnf; arg 1; whnf
       · conv => lhs; whnf; arg 1; whnf
       · exact ⟨by kernel_rfl, by kernel_rfl⟩
       · rfl)
    | (apply s_app rfl rfl
       · conv => lhs; whnf
       · first | (conv => lhs; whnf; arg 1; whnf)
       · first | exact fun _ => rfl | (intro _; kernel_rfl)
       · conv => lhs; whnf
       · conv => lhs; whnf; arg 1; whnf
       · conv => lhs; whnf)
    | (apply s_app_nil rfl rfl rfl rfl
       · first | (conv => lhs; whnf; arg 1; whnf)
       · first | exact fun _ => rfl | (intro _; kernel_rfl)
       · conv => lhs; whnf
       · conv => lhs; whnf)
    | (apply s_lit0 rfl rfl
       · conv => lhs; whnf
       · first | (conv => lhs; whnf; arg 1; whnf))
    | (apply s_lit1 rfl rfl
       · conv => lhs; whnf
       · first | (conv => lhs; whnf; arg 1; whnf)
       · conv => lhs; whnf; arg 1; whnf
       · rfl
       · rfl)
    | (apply s_onlit rfl rfl
       · conv => lhs; whnf
       · first | (conv => lhs; whnf; arg 1; whnf)
       · first | exact fun _ => rfl | (intro _; kernel_rfl)
       · conv => lhs; whnf
       · conv => lhs; whnf)
    | (apply aw_draw (by kernel_rfl) (by kernel_rfl))
    | apply y_nil
    | (apply y_val rfl
       · conv => lhs; whnf
       · conv => lhs; whnf; arg 2; whnf)
    | (apply y_call rfl
       · conv => lhs; whnf
       · conv => lhs; whnf
       · first | fail)
    | (apply y_store rfl rfl rfl
       · conv => lhs; whnf
       · rfl
       · rfl
       · conv => lhs; whnf; arg 1; whnf
       · conv => lhs; whnf; arg 1; whnf
       · exact ⟨by kernel_rfl, by kernel_rfl⟩
       · rfl)
    | (apply y_app rfl rfl
       · conv => lhs; whnf
       · first | (conv => lhs; whnf; arg 1; whnf)
       · first | exact fun _ => rfl | (intro _; kernel_rfl)
       · conv => lhs; whnf
       · rfl
       · rfl
       · conv => lhs; whnf; arg 1; whnf
       · conv => lhs; whnf)
    | (apply y_lit0 rfl rfl
       · conv => lhs; whnf
       · first | (conv => lhs; whnf; arg 1; whnf))
    | (apply y_lit1 rfl rfl
       · conv => lhs; whnf
       · first | (conv => lhs; whnf; arg 1; whnf)
       · conv => lhs; whnf; arg 1; whnf
       · rfl
       · rfl)
    | (apply y_onlit rfl rfl
       · conv => lhs; whnf
       · first | (conv => lhs; whnf; arg 1; whnf)
       · first | exact fun _ => rfl | (intro _; kernel_rfl)
       · conv => lhs; whnf
       · conv => lhs; whnf)
    | exact apartB_none
    | exact apartB_nil
    | exact all_nil
    | (show List.all _ _ = true; rfl)
    | (show apartB _ _ = true; rfl)
    | exact ([] : List Nat)
    | exact (1000000 : Nat)
    | (apply aw_cond_t
       · conv => lhs; whnf; arg 1; arg 1; whnf)
    | (apply aw_cond_f
       · conv => lhs; whnf; arg 1; arg 1; whnf)
    | (refine aw_cond (by conv => lhs; whnf) ?_ ?_ <;> intro hb)
    | refine aw_ret ?_
    | refine aw_exit ?_
    | refine k_seq_exit ?_
    | refine k_seq_ret ?_
    | refine k_block_ret ?_
    | refine k_block_hit rfl ?_
    | refine k_block_miss rfl ?_
    | refine k_scope_exit ?_
    | refine k_scope_ret ?_
    | refine k_loop_exit ?_
    | refine k_loop_ret ?_
    | refine k_end ?_
    | refine k_end_ret ?_
    | (refine ⟨_, by conv => lhs; whnf; arg 2; whnf, ?_⟩; conv => rhs; whnf)
    | exact trivial
    | intro hg)
          · have hlt : i < ts.length := by simpa using hb
            refine k_loop_next (j' := j - 1) (by omega) ⟨i + 1, by omega, Sub.live ⟨?_, rfl, rfl, rfl, trivial⟩ trivial⟩
            show V.c (.string (bs (([105, 110, 112, 117, 116, 32] ++ tx (x.f 1).s) ++ dt ++ [32, 123, 10] ++ linesB (ts.take i)) ++ (⟨#[32, 32]⟩ ++ (gD (strsD ts) i).s ++ ⟨#[10]⟩))) = _
            rw [hel hlt, linesB_step hlt]
            simp only [lit_bs, bs_append, List.append_assoc]
          · exact i64_ok (by omega)
          all_goals try (have hq := hst hb; rw [show ((i : Int)).toNat = i from rfl, hel (by simpa using hb)]; simp only [ByteArray.size_append, bs_size, lit_size, tx_size, List.size_toArray, List.length_append, List.length_cons, List.length_nil, maxLen]; omega)
          all_goals try (show 0 ≤ (i : Int) ∧ (i : Int) < ((strsD ts).length : Int); rw [strsD_length]; simp at hb; omega)
          all_goals try (simp only [ByteArray.size_append, bs_size, lit_size, tx_size, List.size_toArray, List.length_append, List.length_cons, List.length_nil, maxLen]; omega)
          · have e2 : i = ts.length := by simp at hb; omega
            unfold blockB headB
            rw [hn, if_neg (fun h => absurd h.1 (by omega)), if_neg (by omega), e2, List.take_length]
            simp only [lit_bs, bs_append, List.append_assoc, List.nil_append]
            rfl
      all_goals try (simp only [ByteArray.size_append, bs_size, lit_size, tx_size, List.size_toArray, List.length_append, List.length_cons, List.length_nil, maxLen]; omega)
end Go.Proofs.YtohneabalakmeaaDoor
