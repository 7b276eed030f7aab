/- Parts of a proof, merged by a program (shake.py). -/
import Derived.Test.YtohneabalakmeaaDoorQ37
namespace Go.Proofs.YtohneabalakmeaaDoor
open Go.RowKit
attribute [local irreducible] wpList Calls Code.wp AW AWo OpOk seqK blockK scopeK loopK endK AC absLex Yld Sub
def kwL : List (List UInt8) := [[], [116, 121, 112, 101, 32], [105, 110, 116, 101, 114, 102, 97, 99, 101, 32], [117, 110, 105, 111, 110, 32], [101, 110, 117, 109, 32], [105, 110, 112, 117, 116, 32]]
def kwD : List D := [.str ⟨#[]⟩, .str ⟨#[116, 121, 112, 101, 32]⟩, .str ⟨#[105, 110, 116, 101, 114, 102, 97, 99, 101, 32]⟩, .str ⟨#[117, 110, 105, 111, 110, 32]⟩, .str ⟨#[101, 110, 117, 109, 32]⟩, .str ⟨#[105, 110, 112, 117, 116, 32]⟩]
theorem kw_at {n : Int} (h : 1 ≤ n ∧ n ≤ 5) : (gD kwD n.toNat).s = bs (gU kwL n.toNat) ∧ (gU kwL n.toNat).length ≤ 10 := by
  have : n.toNat = 1 ∨ n.toNat = 2 ∨ n.toNat = 3 ∨ n.toNat = 4 ∨ n.toNat = 5 := by omega
  rcases this with e | e | e | e | e <;> rw [e] <;> exact ⟨rfl, by decide⟩
def headB (k : Int) (n dt : List UInt8) (im : List (List UInt8)) : List UInt8 :=
  gU kwL k.toNat ++ n ++ (if k = 1 ∧ 0 < im.length then [32, 105, 109, 112, 108, 101, 109, 101, 110, 116, 115, 32] ++ Lib.join im [32, 38, 32] else []) ++ dt
def blockB (k : Int) (n dt : List UInt8) (im mn ts : List (List UInt8)) : List UInt8 :=
  headB k n dt im ++ (if k = 3 then [32, 61, 32] ++ Lib.join mn [32, 124, 32] ++ [10] else [32, 123, 10] ++ linesB ts ++ [125, 10])
noncomputable def H80 (x : D) (hd : List UInt8) (mn : List (List UInt8)) (i : Nat) : Vst 76 :=
  stS 76 [(1, .bx 1 0), (4, .c (.string (bs hd))), (5, .own 5 9 (strsD (mn.take i))), (6, .c (.int .i64 i))] [(1, .box 58 (cellsV Tryd.prog 12 58 x)), (5, .tok 9 (strsD (mn.take i)).length)]
set_option maxRecDepth 100000 in
set_option maxHeartbeats 8000000 in
theorem blockR_ac (x : D) (dt : List UInt8) (im mn ts : List (List UInt8)) (hk : 1 ≤ (x.f 0).n ∧ (x.f 0).n ≤ 5) (hIm : (x.f 2).l = strsD im)
    (hT : AC EN Tryd.prog 118 [.sl 101 (x.f 3).l] (.c (.string (bs dt))))
    (hL : (x.f 0).n ≠ 3 → AC EN Tryd.prog 119 [.agg (cellsV Tryd.prog 12 58 x)] (.c (.string (bs (linesB ts)))))
    (hM : (x.f 0).n = 3 → mn.length = (x.f 5).l.length ∧ ∀ i, i < (x.f 5).l.length → ((gD (x.f 5).l i).f 0).s = bs (gU mn i))
    (hj1 : (Lib.join im [32, 38, 32]).length ≤ 100000000) (hj2 : (Lib.join mn [32, 124, 32]).length ≤ 100000000) (hn1 : im.length ≤ 100000000) (hn2 : mn.length ≤ 100000000)
    (hs : (x.f 1).s.size + dt.length + (linesB ts).length ≤ 1000000000) :
    AC EN Tryd.prog 80 [.agg (cellsV Tryd.prog 12 58 x)] (.c (.string (bs (blockB (x.f 0).n (tx (x.f 1).s) dt im mn ts)))) := by
  have hjo1 := joinR_ac im [32, 38, 32] hn1 hj1 (by simp)
  have hjo2 := joinR_ac mn [32, 124, 32] hn2 hj2 (by simp)
  rw [← hIm] at hjo1
  have hL2 := fun (h : ((x.f 0).n == 3) = false) => hL (by simpa using h)
  obtain ⟨hw1, hw2⟩ := kw_at hk
  refine ac_enter 76 Tryd.func80 rfl rfl rfl rfl ?_
  intro s w he
  repeat' (first
    | (apply s_lit kwD rfl rfl
       · conv => lhs; whnf
       · first | exact elemStr | (conv => lhs; whnf; arg 1; whnf)
       · rfl
       · rfl
       · repeat' (first | exact trivial | apply And.intro | rfl))
    | refine aw_seq ?_
    | refine aw_region ?_
    | refine awo_nil ?_
    | refine k_seq ?_
    | refine k_block ?_
    | refine k_scope ?_
    | refine aw_block ?_
    | refine aw_skip ?_
    | refine aw_label ?_
    | refine aw_scope ?_
    | (apply s_pick_t rfl rfl
       · conv => lhs; whnf
       · conv => lhs; whnf
       · first | exact bT1 (by assumption) | exact bT2 (by assumption))
    | (apply s_pick_f rfl rfl
       · conv => lhs; whnf
       · conv => lhs; whnf
       · first | exact bF1 (by assumption) | exact bF2 (by assumption))
    | (apply s_val rfl
       · conv => lhs; whnf
       · conv => lhs; whnf; arg 2; whnf)
    | (apply s_call rfl
       · conv => lhs; whnf
       · conv => lhs; whnf
       · first | exact hjo1 | exact hT | exact hL2 (by assumption))
    | (apply s_box rfl rfl rfl rfl
       · conv => lhs; whnf; arg 1; whnf
       · rfl)
    | (apply s_app rfl rfl
       · conv => lhs; whnf
       · first | exact elemStr | (conv => lhs; whnf; arg 1; whnf)
       · first | exact fun _ => rfl | (intro _; kernel_rfl)
       · conv => lhs; whnf
       · conv => lhs; whnf; arg 1; whnf
       · conv => lhs; whnf)
    | (apply s_app_nil rfl rfl rfl rfl
       · first | exact elemStr | (conv => lhs; whnf; arg 1; whnf)
       · first | exact fun _ => rfl | (intro _; kernel_rfl)
       · conv => lhs; whnf
       · conv => lhs; whnf)
    | (apply s_lit0 rfl rfl
       · conv => lhs; whnf
       · first | exact elemStr | (conv => lhs; whnf; arg 1; whnf))
    | (apply s_lit1 rfl rfl
       · conv => lhs; whnf
       · first | exact elemStr | (conv => lhs; whnf; arg 1; whnf)
       · conv => lhs; whnf; arg 1; whnf
       · rfl
       · rfl)
    | (apply s_onlit rfl rfl
       · conv => lhs; whnf
       · first | exact elemStr | (conv => lhs; whnf; arg 1; whnf)
       · first | exact fun _ => rfl | (intro _; kernel_rfl)
       · conv => lhs; whnf
       · conv => lhs; whnf)
    | (apply s_wanted_val rfl
       · conv => lhs; whnf
       · conv => lhs; whnf
       · first | rfl | assumption
       · conv => lhs; whnf; arg 2; whnf)
    | (apply s_wanted_call rfl
       · conv => lhs; whnf
       · conv => lhs; whnf
       · first | rfl | assumption
       · conv => lhs; whnf
       · first | exact hjo1 | exact hT | exact hL2 (by assumption))
    | (apply s_skip rfl
       · conv => lhs; whnf
       · conv => lhs; whnf
       · first | rfl | assumption)
    | (apply s_guard_val rfl
       · conv => lhs; whnf
       · conv => lhs; whnf
       · conv => lhs; whnf; arg 2; whnf)
    | (apply s_guard_call rfl
       · conv => lhs; whnf
       · conv => lhs; whnf
       · conv => lhs; whnf
       · first | exact hjo1 | exact hT | exact hL2 (by assumption))
    | (apply aw_cond_t
       · conv => lhs; whnf; arg 1; arg 1; whnf)
    | (apply aw_cond_f
       · conv => lhs; whnf; arg 1; arg 1; whnf)
    | (refine aw_cond (by conv => lhs; whnf) ?_ ?_ <;> intro hb)
    | refine aw_ret ?_
    | refine aw_exit ?_
    | refine k_seq_exit ?_
    | refine k_seq_ret ?_
    | refine k_block_ret ?_
    | refine k_block_hit rfl ?_
    | refine k_block_miss rfl ?_
    | refine k_scope_exit ?_
    | refine k_scope_ret ?_
    | refine k_loop_exit ?_
    | refine k_loop_ret ?_
    | refine k_end ?_
    | refine k_end_ret ?_
    | (refine ⟨_, by conv => lhs; whnf; arg 2; whnf, ?_⟩; conv => rhs; whnf)
    | exact trivial
    | intro hg)
  all_goals try (exfalso; simp only [beq_iff_eq, decide_eq_true_eq, decide_eq_false_iff_not, beq_eq_false_iff_ne, bne_iff_ne, ne_eq, ge_iff_le, Bool.decide_eq_true, Bool.decide_eq_false, Bool.not_eq_true', beq_true, beq_false, Bool.not_eq_eq_eq_not, Bool.not_false, Bool.not_true] at *; omega)
  all_goals try (rw [hw1]; (simp only [ByteArray.size_append, bs_size, lit_size, List.size_toArray, List.length_append, List.length_cons, List.length_nil, maxLen, Nat.reduceAdd, Int.toNat_natCast]; omega))
  · rename_i h0
    have h1 : (x.f 0).n = 1 := by simpa using hg
    have h3 : ¬ (x.f 0).n = 3 := by simpa using hb
    have h0 : decide (((x.f 2).l.length : Int) > 0) = true := h0
    have h2 : 0 < im.length := by rw [hIm, strsD_length] at h0; simpa using h0
    rw [hw1]
    unfold blockB headB
    rw [if_pos ⟨h1, h2⟩, if_neg h3]
    simp only [lit_bs, ← bs_append, bs_tx, ByteArray.append_assoc, bs_nil, ByteArray.append_empty, ByteArray.empty_append]
  · rename_i h0
    have h3 : ¬ (x.f 0).n = 3 := by simpa using hb
    have h0 : decide (((x.f 2).l.length : Int) > 0) = false := h0
    have h2 : ¬ 0 < im.length := by rw [hIm, strsD_length] at h0; simpa using h0
    rw [hw1]
    unfold blockB headB
    rw [if_neg (fun h => h2 h.2), if_neg h3]
    simp only [lit_bs, ← bs_append, bs_tx, ByteArray.append_assoc, bs_nil, ByteArray.append_empty, ByteArray.empty_append]
  · have h3 : (x.f 0).n = 3 := by simpa using hb
    have h1 : ¬ (x.f 0).n = 1 := by omega
    obtain ⟨hlen, hf⟩ := hM h3
    refine aw_sub (Sub.own (t := 5) (e := 9) rfl rfl) ?_
    refine aw_loop (fun j st => ∃ i, i + j = mn.length ∧ Sub (cx EN Tryd.prog s w he) st (H80 x (headB (x.f 0).n (tx (x.f 1).s) dt im) mn i)) mn.length ⟨0, by omega, ?_⟩ ?_
    · refine Sub.live ⟨rfl, ?_, rfl, rfl, trivial⟩ ⟨rfl, rfl, trivial⟩
      show V.c (.string ((gD kwD (x.f 0).n.toNat).s ++ (x.f 1).s ++ bs dt)) = _
      rw [hw1]
      unfold headB
      rw [if_neg (fun h => h1 h.1)]
      simp only [lit_bs, ← bs_append, bs_tx, ByteArray.append_assoc, bs_nil, ByteArray.append_empty, ByteArray.empty_append]
    · rintro j st ⟨i, hij, hs2⟩
      refine aw_sub hs2 ?_
      have htk := strsD_take_len (ls := mn) (i := i) (by omega)
      have hhl : (headB (x.f 0).n (tx (x.f 1).s) dt im).length ≤ 1000000100 := by
        unfold headB
        rw [if_neg (fun h => h1 h.1)]
        simp only [List.length_append, List.length_nil, tx_size]; omega
      have hjo3 : decide ((i : Int) < (x.f 5).l.length) = false → AC EN Tryd.prog 77 [.sl 9 (strsD (mn.take i)), .c (.string (bs [32, 124, 32]))] (.c (.string (bs (Lib.join mn [32, 124, 32])))) := fun h => by
        have e : i = mn.length := by simp at h; omega
        rw [e, List.take_length]; exact hjo2
      repeat' (first
    | refine aw_seq ?_
    | refine aw_region ?_
    | refine awo_nil ?_
    | refine k_seq ?_
    | refine k_block ?_
    | refine k_scope ?_
    | refine aw_block ?_
    | refine aw_skip ?_
    | refine aw_label ?_
    | refine aw_scope ?_
    | (apply s_pick_t rfl rfl
       · conv => lhs; whnf
       · conv => lhs; whnf
       · first | exact bT1 (by assumption) | exact bT2 (by assumption))
    | (apply s_pick_f rfl rfl
       · conv => lhs; whnf
       · conv => lhs; whnf
       · first | exact bF1 (by assumption) | exact bF2 (by assumption))
    | (apply s_val rfl
       · conv => lhs; whnf
       · conv => lhs; whnf; arg 2; whnf)
    | (apply s_call rfl
       · conv => lhs; whnf
       · conv => lhs; whnf
       · first | exact hjo3 (by assumption))
    | (apply s_box rfl rfl rfl rfl
       · conv => lhs; whnf; arg 1; whnf
       · rfl)
    | (apply s_app rfl rfl
       · conv => lhs; whnf
       · first | exact elemStr | (conv => lhs; whnf; arg 1; whnf)
       · first | exact fun _ => rfl | (intro _; kernel_rfl)
       · conv => lhs; whnf
       · conv => lhs; whnf; arg 1; whnf
       · conv => lhs; whnf)
    | (apply s_app_nil rfl rfl rfl rfl
       · first | exact elemStr | (conv => lhs; whnf; arg 1; whnf)
       · first | exact fun _ => rfl | (intro _; kernel_rfl)
       · conv => lhs; whnf
       · conv => lhs; whnf)
    | (apply s_lit0 rfl rfl
       · conv => lhs; whnf
       · first | exact elemStr | (conv => lhs; whnf; arg 1; whnf))
    | (apply s_lit1 rfl rfl
       · conv => lhs; whnf
       · first | exact elemStr | (conv => lhs; whnf; arg 1; whnf)
       · conv => lhs; whnf; arg 1; whnf
       · rfl
       · rfl)
    | (apply s_onlit rfl rfl
       · conv => lhs; whnf
       · first | exact elemStr | (conv => lhs; whnf; arg 1; whnf)
       · first | exact fun _ => rfl | (intro _; kernel_rfl)
       · conv => lhs; whnf
       · conv => lhs; whnf)
    | (apply s_wanted_val rfl
       · conv => lhs; whnf
       · conv => lhs; whnf
       · first | rfl | assumption
       · conv => lhs; whnf; arg 2; whnf)
    | (apply s_wanted_call rfl
       · conv => lhs; whnf
       · conv => lhs; whnf
       · first | rfl | assumption
       · conv => lhs; whnf
       · first | exact hjo3 (by assumption))
    | (apply s_skip rfl
       · conv => lhs; whnf
       · conv => lhs; whnf
       · first | rfl | assumption)
    | (apply s_guard_val rfl
       · conv => lhs; whnf
       · conv => lhs; whnf
       · conv => lhs; whnf; arg 2; whnf)
    | (apply s_guard_call rfl
       · conv => lhs; whnf
       · conv => lhs; whnf
       · conv => lhs; whnf
       · first | exact hjo3 (by assumption))
    | (apply aw_cond_t
       · conv => lhs; whnf; arg 1; arg 1; whnf)
    | (apply aw_cond_f
       · conv => lhs; whnf; arg 1; arg 1; whnf)
    | (refine aw_cond (by conv => lhs; whnf) ?_ ?_ <;> intro hb)
    | refine aw_ret ?_
    | refine aw_exit ?_
    | refine k_seq_exit ?_
    | refine k_seq_ret ?_
    | refine k_block_ret ?_
    | refine k_block_hit rfl ?_
    | refine k_block_miss rfl ?_
    | refine k_scope_exit ?_
    | refine k_scope_ret ?_
    | refine k_loop_exit ?_
    | refine k_loop_ret ?_
    | refine k_end ?_
    | refine k_end_ret ?_
    | (refine ⟨_, by conv => lhs; whnf; arg 2; whnf, ?_⟩; conv => rhs; whnf)
    | exact trivial
    | intro hg)
      · have hb : decide ((i : Int) < (x.f 5).l.length) = true := hb
        have hlt2 : i < (x.f 5).l.length := by simpa using hb
        have hlt : i < mn.length := by omega
        have hnm := hf i hlt2
        refine k_loop_next (j' := j - 1) (by omega) ⟨i + 1, by omega, Sub.live ⟨rfl, rfl, ?_, rfl, trivial⟩ ⟨rfl, ?_, trivial⟩⟩
        · show V.own 5 _ (strsD (mn.take i) ++ [.str ((gD (x.f 5).l i).f 0).s]) = _
          rw [strsD_take hlt, hnm]
        · show some (Res.tok _ ((strsD (mn.take i)).length + 1)) = _
          rw [strsD_take hlt, List.length_append]; rfl
      · exact i64_ok (by omega)
      · rw [htk]; simp only [List.length_cons, List.length_nil, maxLen]; omega
      · show 0 ≤ (i : Int) ∧ (i : Int) < ((x.f 5).l.length : Int)
        have hb : decide ((i : Int) < (x.f 5).l.length) = true := hb
        simp at hb; omega
      all_goals try (simp only [ByteArray.size_append, bs_size, lit_size, List.size_toArray, List.length_append, List.length_cons, List.length_nil, maxLen, Nat.reduceAdd, Int.toNat_natCast]; omega)
      · unfold blockB
        rw [if_pos h3]
        simp only [lit_bs, ← bs_append, ByteArray.append_assoc]
  · have h1 : ¬ (x.f 0).n = 1 := by simpa using hg
    have h3 : ¬ (x.f 0).n = 3 := by simpa using hb
    rw [hw1]
    unfold blockB headB
    rw [if_neg (fun h => h1 h.1), if_neg h3]
    simp only [lit_bs, ← bs_append, bs_tx, ByteArray.append_assoc, bs_nil, ByteArray.append_empty, ByteArray.empty_append]
  · show 0 ≤ (x.f 0).n ∧ (x.f 0).n < (6 : Int)
    omega
end Go.Proofs.YtohneabalakmeaaDoor
