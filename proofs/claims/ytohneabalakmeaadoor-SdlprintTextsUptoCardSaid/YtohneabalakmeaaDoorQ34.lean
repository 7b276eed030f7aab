/- Parts of a proof, merged by a program (shake.py). -/
import Derived.Test.YtohneabalakmeaaDoorQ33
namespace Go.Proofs.YtohneabalakmeaaDoor
open Go.RowKit
attribute [local irreducible] wpList Calls Code.wp AW AWo OpOk seqK blockK scopeK loopK endK AC absLex Yld Sub
noncomputable def H77 (ts : List (List UInt8)) (sep : List UInt8) (i : Nat) : Vst 25 :=
  stS 25 [(0, .sl 9 (strsD ts)), (1, .c (.string (bs sep))), (5, .c (.string (bs (Lib.join (ts.take i) sep)))), (6, .c (.int .i64 i))] []
theorem join_step {ts : List (List UInt8)} {sep : List UInt8} {i : Nat} (h : i < ts.length) : Lib.join (ts.take (i + 1)) sep = if 0 < i then Lib.join (ts.take i) sep ++ sep ++ gU ts i else gU ts i := by
  rw [List.take_add_one, List.getElem?_eq_getElem h, gU_get h]
  by_cases h0 : 0 < i
  · rw [if_pos h0]
    exact join_snoc _ _ _ (fun e => by have h2 := congrArg List.length e; rw [List.length_take] at h2; simp only [List.length_nil] at h2; omega)
  · rw [if_neg h0]
    have : i = 0 := by omega
    subst this
    exact Lib.join_one _ _
set_option maxRecDepth 100000 in
theorem joinR_ac (ts : List (List UInt8)) (sep : List UInt8) (hn : ts.length ≤ 100000000) (hl : (Lib.join ts sep).length ≤ 100000000) (hsep : sep.length ≤ 1000) :
    AC EN Tryd.prog 77 [.sl 9 (strsD ts), .c (.string (bs sep))] (.c (.string (bs (Lib.join ts sep)))) := by
  have hm := join_mono ts sep
  refine ac_enter 25 Tryd.func77 rfl rfl rfl rfl ?_
  intro s w he
  repeat' (first
    | refine aw_seq ?_
    | refine aw_region ?_
    | refine awo_nil ?_
    | refine k_seq ?_
    | refine k_block ?_
    | refine k_scope ?_
    | refine aw_block ?_
    | refine aw_skip ?_
    | refine aw_label ?_
    | refine aw_scope ?_
    | (apply s_val rfl
       · conv => lhs; whnf
       · conv => lhs; whnf; arg 2; whnf)
    | (apply aw_cond_t
       · conv => lhs; whnf; arg 1; arg 1; whnf)
    | (apply aw_cond_f
       · conv => lhs; whnf; arg 1; arg 1; whnf)
    | (refine aw_cond (by conv => lhs; whnf) ?_ ?_ <;> intro hb)
    | refine aw_ret ?_
    | refine aw_exit ?_
    | refine k_seq_exit ?_
    | refine k_seq_ret ?_
    | refine k_block_ret ?_
    | refine k_block_hit rfl ?_
    | refine k_block_miss rfl ?_
    | refine k_scope_exit ?_
    | refine k_scope_ret ?_
    | refine k_loop_exit ?_
    | refine k_loop_ret ?_
    | refine k_end ?_
    | refine k_end_ret ?_
    | (refine ⟨_, by conv => lhs; whnf; arg 2; whnf, ?_⟩; conv => rhs; whnf)
    | exact trivial
    | intro hg)
  refine aw_loop (fun j st => ∃ i, i + j = ts.length ∧ Sub (cx EN Tryd.prog s w he) st (H77 ts sep i)) ts.length ⟨0, by omega, ?_⟩ ?_
  · exact Sub.live ⟨rfl, rfl, rfl, rfl, trivial⟩ trivial
  · rintro j st ⟨i, hij, hs2⟩
    refine aw_sub hs2 ?_
    have hm1 := hm i
    have hm2 := hm (i + 1)
    have hsl := strsD_length ts
    have hel : i < ts.length → (gD (strsD ts) i).s = bs (gU ts i) := fun h => strsD_get h
    have hst : i < ts.length → (gU ts i).length ≤ 100000000 := fun h => by
      rw [join_step h] at hm2
      split at hm2
      · simp only [List.length_append] at hm2; omega
      · omega
    have hlt : decide ((i : Int) < ((strsD ts).length : Int)) = true → i < ts.length := fun h => by rw [hsl] at h; simpa using h
    repeat' (first
    | refine aw_seq ?_
    | refine aw_region ?_
    | refine awo_nil ?_
    | refine k_seq ?_
    | refine k_block ?_
    | refine k_scope ?_
    | refine aw_block ?_
    | refine aw_skip ?_
    | refine aw_label ?_
    | refine aw_scope ?_
    | (apply s_val rfl
       · conv => lhs; whnf
       · conv => lhs; whnf; arg 2; whnf)
    | (apply aw_cond_t
       · conv => lhs; whnf; arg 1; arg 1; whnf)
    | (apply aw_cond_f
       · conv => lhs; whnf; arg 1; arg 1; whnf)
    | (refine aw_cond (by conv => lhs; whnf) ?_ ?_ <;> intro hb)
    | refine aw_ret ?_
    | refine aw_exit ?_
    | refine k_seq_exit ?_
    | refine k_seq_ret ?_
    | refine k_block_ret ?_
    | refine k_block_hit rfl ?_
    | refine k_block_miss rfl ?_
    | refine k_scope_exit ?_
    | refine k_scope_ret ?_
    | refine k_loop_exit ?_
    | refine k_loop_ret ?_
    | refine k_end ?_
    | refine k_end_ret ?_
    | (refine ⟨_, by conv => lhs; whnf; arg 2; whnf, ?_⟩; conv => rhs; whnf)
    | exact trivial
    | intro hg)
    · rename_i hb0
      have hi := hlt hb0
      have h0 : 0 < i := by simpa using hb
      refine k_loop_next (j' := j - 1) (by omega) ⟨i + 1, by omega, Sub.live ⟨rfl, rfl, ?_, rfl, trivial⟩ trivial⟩
      show V.c (.string (bs (Lib.join (ts.take i) sep) ++ bs sep ++ (gD (strsD ts) i).s)) = _
      rw [join_step hi, if_pos h0, hel hi, bs_append, bs_append]
    · exact i64_ok (by omega)
    · rename_i hb0
      have hi := hlt hb0
      rw [show ((i : Int)).toNat = i from rfl, hel hi]
      have := hst hi
      (simp only [ByteArray.size_append, bs_size, lit_size, List.size_toArray, List.length_append, List.length_cons, List.length_nil, maxLen, Nat.reduceAdd, Int.toNat_natCast]; omega)
    · rename_i hb0
      have hi := hlt hb0
      omega
    · (simp only [ByteArray.size_append, bs_size, lit_size, List.size_toArray, List.length_append, List.length_cons, List.length_nil, maxLen, Nat.reduceAdd, Int.toNat_natCast]; omega)
    · rename_i hb0
      have hi := hlt hb0
      have h0 : ¬ 0 < i := by simpa using hb
      refine k_loop_next (j' := j - 1) (by omega) ⟨i + 1, by omega, Sub.live ⟨rfl, rfl, ?_, rfl, trivial⟩ trivial⟩
      show V.c (.string (bs (Lib.join (ts.take i) sep) ++ (gD (strsD ts) i).s)) = _
      rw [join_step hi, if_neg h0, hel hi]
      have e : i = 0 := by omega
      subst e
      rw [List.take_zero, Lib.join_nil, bs_append, List.nil_append]
    · exact i64_ok (by omega)
    · rename_i hb0
      have hi := hlt hb0
      rw [show ((i : Int)).toNat = i from rfl, hel hi]
      have := hst hi
      (simp only [ByteArray.size_append, bs_size, lit_size, List.size_toArray, List.length_append, List.length_cons, List.length_nil, maxLen, Nat.reduceAdd, Int.toNat_natCast]; omega)
    · rename_i hb0
      have hi := hlt hb0
      omega
    · have e : i = ts.length := by rw [hsl] at hb; simp at hb; omega
      rw [e, List.take_length]
end Go.Proofs.YtohneabalakmeaaDoor
