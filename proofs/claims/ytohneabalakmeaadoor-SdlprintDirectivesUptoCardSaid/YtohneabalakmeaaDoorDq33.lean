/- Parts of a proof, merged by a program (shake.py). -/
import Derived.Test.YtohneabalakmeaaDoorDq32
namespace Go.Proofs.YtohneabalakmeaaDoor
open Go.RowKit
attribute [local irreducible] wpList Calls Code.wp AW AWo OpOk seqK blockK scopeK loopK endK AC absLex Yld Sub
set_option maxRecDepth 100000 in
theorem elemStr : elemOk Tryd.prog 47 = some (9, 16) := by kernel_rfl
theorem strsD_take {ls : List (List UInt8)} {i : Nat} (h : i < ls.length) : strsD (ls.take (i + 1)) = strsD (ls.take i) ++ [.str (bs (gU ls i))] := by
  unfold strsD
  rw [List.take_add_one, List.getElem?_eq_getElem h, List.map_append, gU_get h]
  rfl
theorem strsD_take_len {ls : List (List UInt8)} {i : Nat} (h : i ≤ ls.length) : (strsD (ls.take i)).length = i := by
  rw [strsD_length, List.length_take]; omega
def fieldB (n rt dt : List UInt8) (ts : List (List UInt8)) : List UInt8 := n ++ (if 0 < ts.length then [40] ++ Lib.join ts [44, 32] ++ [41] else []) ++ [58, 32] ++ rt ++ dt
noncomputable def H116 (x : D) (ts : List (List UInt8)) (i : Nat) : Vst 41 :=
  stS 41 [(1, .bx 1 0), (3, .c (.string (x.f 0).s)), (4, .own 4 9 (strsD (ts.take i))), (10, .sl 132 (x.f 1).l), (11, .c (.int .i64 (x.f 1).l.length)), (12, .c (.int .i64 i))] [(1, .box 64 (cellsV Tryd.prog 12 64 x)), (4, .tok 9 (strsD (ts.take i)).length)]
set_option maxRecDepth 100000 in
theorem fieldP_ac (x : D) (rt dt : List UInt8) (ts : List (List UInt8)) (hlen : ts.length = (x.f 1).l.length) (hi : ∀ i, i < (x.f 1).l.length → AC EN Tryd.prog 117 [.agg (cellsV Tryd.prog 12 132 (gD (x.f 1).l i))] (.c (.string (bs (gU ts i)))))
    (h1 : AC EN Tryd.prog 150 [.agg [.c (.string ((x.f 2).f 0).s), .sl 3 ((x.f 2).f 1).l]] (.c (.string (bs rt))))
    (h3 : AC EN Tryd.prog 115 [.sl 101 (x.f 3).l] (.c (.string (bs dt)))) (hs : (x.f 0).s.size + rt.length + dt.length ≤ 1000000000) (hj : (Lib.join ts [44, 32]).length ≤ 100000000) (hn : ts.length ≤ 100000000) :
    AC EN Tryd.prog 116 [.agg (cellsV Tryd.prog 12 64 x)] (.c (.string (bs (fieldB (tx (x.f 0).s) rt dt ts)))) := by
  have hjo := join_ac ts [44, 32] hn hj
  refine ac_enter 41 Tryd.func116 rfl rfl rfl rfl ?_
  intro s w he
  repeat' (first
    | refine aw_seq ?_
    | refine aw_region ?_
    | refine awo_nil ?_
    | refine k_seq ?_
    | refine k_block ?_
    | refine k_scope ?_
    | refine aw_block ?_
    | refine aw_skip ?_
    | refine aw_label ?_
    | refine aw_scope ?_
    | (apply s_val rfl
       · conv => lhs; whnf
       · conv => lhs; whnf; arg 2; whnf)
    | (apply s_call rfl
       · conv => lhs; whnf
       · conv => lhs; whnf
       · first | fail)
    | (apply s_box rfl rfl rfl rfl
       · conv => lhs; whnf; arg 1; whnf
       · rfl)
    | (apply s_alloc rfl rfl rfl rfl
       · conv => lhs; whnf; arg 1; whnf
       · rfl)
    | (apply s_store rfl rfl rfl
       · conv => lhs; whnf
       · conv => lhs; whnf; arg 1; whnf
       · conv => lhs; whnf; arg 1; whnf
       · exact ⟨by kernel_rfl, by kernel_rfl⟩
       · rfl)
    | (apply s_app rfl rfl
       · conv => lhs; whnf
       · first | (conv => lhs; whnf; arg 1; whnf)
       · first | exact fun _ => rfl | (intro _; kernel_rfl)
       · conv => lhs; whnf
       · conv => lhs; whnf; arg 1; whnf
       · conv => lhs; whnf)
    | (apply s_app_nil rfl rfl rfl rfl
       · first | (conv => lhs; whnf; arg 1; whnf)
       · first | exact fun _ => rfl | (intro _; kernel_rfl)
       · conv => lhs; whnf
       · conv => lhs; whnf)
    | (apply s_lit0 rfl rfl
       · conv => lhs; whnf
       · first | (conv => lhs; whnf; arg 1; whnf))
    | (apply s_lit1 rfl rfl
       · conv => lhs; whnf
       · first | (conv => lhs; whnf; arg 1; whnf)
       · conv => lhs; whnf; arg 1; whnf
       · rfl
       · rfl)
    | (apply s_onlit rfl rfl
       · conv => lhs; whnf
       · first | (conv => lhs; whnf; arg 1; whnf)
       · first | exact fun _ => rfl | (intro _; kernel_rfl)
       · conv => lhs; whnf
       · conv => lhs; whnf)
    | (apply aw_draw (by kernel_rfl) (by kernel_rfl))
    | apply y_nil
    | (apply y_val rfl
       · conv => lhs; whnf
       · conv => lhs; whnf; arg 2; whnf)
    | (apply y_call rfl
       · conv => lhs; whnf
       · conv => lhs; whnf
       · first | fail)
    | (apply y_store rfl rfl rfl
       · conv => lhs; whnf
       · rfl
       · rfl
       · conv => lhs; whnf; arg 1; whnf
       · conv => lhs; whnf; arg 1; whnf
       · exact ⟨by kernel_rfl, by kernel_rfl⟩
       · rfl)
    | (apply y_app rfl rfl
       · conv => lhs; whnf
       · first | (conv => lhs; whnf; arg 1; whnf)
       · first | exact fun _ => rfl | (intro _; kernel_rfl)
       · conv => lhs; whnf
       · rfl
       · rfl
       · conv => lhs; whnf; arg 1; whnf
       · conv => lhs; whnf)
    | (apply y_lit0 rfl rfl
       · conv => lhs; whnf
       · first | (conv => lhs; whnf; arg 1; whnf))
    | (apply y_lit1 rfl rfl
       · conv => lhs; whnf
       · first | (conv => lhs; whnf; arg 1; whnf)
       · conv => lhs; whnf; arg 1; whnf
       · rfl
       · rfl)
    | (apply y_onlit rfl rfl
       · conv => lhs; whnf
       · first | (conv => lhs; whnf; arg 1; whnf)
       · first | exact fun _ => rfl | (intro _; kernel_rfl)
       · conv => lhs; whnf
       · conv => lhs; whnf)
    | exact apartB_none
    | exact apartB_nil
    | exact all_nil
    | (show List.all _ _ = true; rfl)
    | (show apartB _ _ = true; rfl)
    | exact ([] : List Nat)
    | exact (1000000 : Nat)
    | (apply aw_cond_t
       · conv => lhs; whnf; arg 1; arg 1; whnf)
    | (apply aw_cond_f
       · conv => lhs; whnf; arg 1; arg 1; whnf)
    | (refine aw_cond (by conv => lhs; whnf) ?_ ?_ <;> intro hb)
    | refine aw_ret ?_
    | refine aw_exit ?_
    | refine k_seq_exit ?_
    | refine k_seq_ret ?_
    | refine k_block_ret ?_
    | refine k_block_hit rfl ?_
    | refine k_block_miss rfl ?_
    | refine k_scope_exit ?_
    | refine k_scope_ret ?_
    | refine k_loop_exit ?_
    | refine k_loop_ret ?_
    | refine k_end ?_
    | refine k_end_ret ?_
    | (refine ⟨_, by conv => lhs; whnf; arg 2; whnf, ?_⟩; conv => rhs; whnf)
    | exact trivial
    | intro hg)
  · refine aw_sub (Sub.own (t := 4) (e := 9) rfl rfl) ?_
    refine aw_loop (fun j st => ∃ i, i + j = ts.length ∧ Sub (cx EN Tryd.prog s w he) st (H116 x ts i)) ts.length ⟨0, by omega, ?_⟩ ?_
    · exact Sub.live ⟨rfl, rfl, rfl, rfl, rfl, rfl, trivial⟩ ⟨rfl, rfl, trivial⟩
    · rintro j st ⟨i, hij, hs2⟩
      refine aw_sub hs2 ?_
      have htk := strsD_take_len (ls := ts) (i := i) (by omega)
      have hi2 := fun (h : decide ((i : Int) < (x.f 1).l.length) = true) => hi i (by simpa using h)
      have hjo2 : decide ((i : Int) < (x.f 1).l.length) = false → AC EN Tryd.prog 76 [.sl 9 (strsD (ts.take i)), .c (.string (bs [44, 32]))] (.c (.string (bs (Lib.join ts [44, 32])))) := fun h => by
        have e : i = ts.length := by simp at h; omega
        rw [e, List.take_length]; exact hjo
      repeat' (first
    | refine aw_seq ?_
    | refine aw_region ?_
    | refine awo_nil ?_
    | refine k_seq ?_
    | refine k_block ?_
    | refine k_scope ?_
    | refine aw_block ?_
    | refine aw_skip ?_
    | refine aw_label ?_
    | refine aw_scope ?_
    | (apply s_val rfl
       · conv => lhs; whnf
       · conv => lhs; whnf; arg 2; whnf)
    | (apply s_call rfl
       · conv => lhs; whnf
       · conv => lhs; whnf
       · first | exact hi2 hb | exact hjo2 (by assumption) | exact h1 | exact h3)
    | (apply s_box rfl rfl rfl rfl
       · conv => lhs; whnf; arg 1; whnf
       · rfl)
    | (apply s_alloc rfl rfl rfl rfl
       · conv => lhs; whnf; arg 1; whnf
       · rfl)
    | (apply s_store rfl rfl rfl
       · conv => lhs; whnf
       · conv => lhs; whnf; arg 1; whnf
       · conv => lhs; whnf; arg 1; whnf
       · exact ⟨by kernel_rfl, by kernel_rfl⟩
       · rfl)
    | (apply s_app rfl rfl
       · conv => lhs; whnf
       · first | exact elemStr | (conv => lhs; whnf; arg 1; whnf)
       · first | exact fun _ => rfl | (intro _; kernel_rfl)
       · conv => lhs; whnf
       · conv => lhs; whnf; arg 1; whnf
       · conv => lhs; whnf)
    | (apply s_app_nil rfl rfl rfl rfl
       · first | exact elemStr | (conv => lhs; whnf; arg 1; whnf)
       · first | exact fun _ => rfl | (intro _; kernel_rfl)
       · conv => lhs; whnf
       · conv => lhs; whnf)
    | (apply s_lit0 rfl rfl
       · conv => lhs; whnf
       · first | exact elemStr | (conv => lhs; whnf; arg 1; whnf))
    | (apply s_lit1 rfl rfl
       · conv => lhs; whnf
       · first | exact elemStr | (conv => lhs; whnf; arg 1; whnf)
       · conv => lhs; whnf; arg 1; whnf
       · rfl
       · rfl)
    | (apply s_onlit rfl rfl
       · conv => lhs; whnf
       · first | exact elemStr | (conv => lhs; whnf; arg 1; whnf)
       · first | exact fun _ => rfl | (intro _; kernel_rfl)
       · conv => lhs; whnf
       · conv => lhs; whnf)
    | (apply aw_draw (by kernel_rfl) (by kernel_rfl))
    | apply y_nil
    | (apply y_val rfl
       · conv => lhs; whnf
       · conv => lhs; whnf; arg 2; whnf)
    | (apply y_call rfl
       · conv => lhs; whnf
       · conv => lhs; whnf
       · first | exact hi2 hb | exact hjo2 (by assumption) | exact h1 | exact h3)
    | (apply y_store rfl rfl rfl
       · conv => lhs; whnf
       · rfl
       · rfl
       · conv => lhs; whnf; arg 1; whnf
       · conv => lhs; whnf; arg 1; whnf
       · exact ⟨by kernel_rfl, by kernel_rfl⟩
       · rfl)
    | (apply y_app rfl rfl
       · conv => lhs; whnf
       · first | exact elemStr | (conv => lhs; whnf; arg 1; whnf)
       · first | exact fun _ => rfl | (intro _; kernel_rfl)
       · conv => lhs; whnf
       · rfl
       · rfl
       · conv => lhs; whnf; arg 1; whnf
       · conv => lhs; whnf)
    | (apply y_lit0 rfl rfl
       · conv => lhs; whnf
       · first | exact elemStr | (conv => lhs; whnf; arg 1; whnf))
    | (apply y_lit1 rfl rfl
       · conv => lhs; whnf
       · first | exact elemStr | (conv => lhs; whnf; arg 1; whnf)
       · conv => lhs; whnf; arg 1; whnf
       · rfl
       · rfl)
    | (apply y_onlit rfl rfl
       · conv => lhs; whnf
       · first | exact elemStr | (conv => lhs; whnf; arg 1; whnf)
       · first | exact fun _ => rfl | (intro _; kernel_rfl)
       · conv => lhs; whnf
       · conv => lhs; whnf)
    | exact apartB_none
    | exact apartB_nil
    | exact all_nil
    | (show List.all _ _ = true; rfl)
    | (show apartB _ _ = true; rfl)
    | exact ([] : List Nat)
    | exact (1000000 : Nat)
    | (apply aw_cond_t
       · conv => lhs; whnf; arg 1; arg 1; whnf)
    | (apply aw_cond_f
       · conv => lhs; whnf; arg 1; arg 1; whnf)
    | (refine aw_cond (by conv => lhs; whnf) ?_ ?_ <;> intro hb)
    | refine aw_ret ?_
    | refine aw_exit ?_
    | refine k_seq_exit ?_
    | refine k_seq_ret ?_
    | refine k_block_ret ?_
    | refine k_block_hit rfl ?_
    | refine k_block_miss rfl ?_
    | refine k_scope_exit ?_
    | refine k_scope_ret ?_
    | refine k_loop_exit ?_
    | refine k_loop_ret ?_
    | refine k_end ?_
    | refine k_end_ret ?_
    | (refine ⟨_, by conv => lhs; whnf; arg 2; whnf, ?_⟩; conv => rhs; whnf)
    | exact trivial
    | intro hg)
      · have hlt : i < ts.length := by simp at hb; omega
        refine k_loop_next (j' := j - 1) (by omega) ⟨i + 1, by omega, Sub.live ⟨rfl, rfl, ?_, rfl, rfl, rfl, trivial⟩ ⟨rfl, ?_, trivial⟩⟩
        · show V.own 4 _ (strsD (ts.take i) ++ [.str (bs (gU ts i))]) = _
          rw [strsD_take hlt]
        · show some (Res.tok _ ((strsD (ts.take i)).length + 1)) = _
          rw [strsD_take hlt, List.length_append]; rfl
      · exact i64_ok (by omega)
      · rw [htk]; simp only [List.length_cons, List.length_nil, maxLen]; omega
      · simp at hb; omega
      all_goals try (simp only [ByteArray.size_append, bs_size, lit_size, List.size_toArray, List.length_append, List.length_cons, List.length_nil, maxLen, Nat.reduceAdd, Int.toNat_natCast]; omega)
      · have hp : 0 < ts.length := by rw [htk] at hb; simp at hb; omega
        simp only [lit_bs, fieldB, hp, if_true, ↓reduceIte, ← bs_append, bs_tx, ByteArray.append_assoc]
      · have hp : ¬ 0 < ts.length := by rename_i h0; rw [htk] at hb; simp at hb h0; omega
        simp only [lit_bs, fieldB, hp, if_false, ↓reduceIte, ← bs_append, bs_tx, ByteArray.append_assoc, bs_nil, ByteArray.append_empty, ByteArray.empty_append]
end Go.Proofs.YtohneabalakmeaaDoor
