/- Parts of a proof, merged by a program (shake.py). -/
import Derived.Test.YtohneabalakmeaaDoorDq30
namespace Go.Proofs.YtohneabalakmeaaDoor
open Go.RowKit
attribute [local irreducible] wpList Calls Code.wp AW AWo OpOk seqK blockK scopeK loopK endK AC absLex Yld Sub
theorem i64_ok {n : Int} (h : -9223372036854775808 ≤ n ∧ n ≤ 9223372036854775807) : IntKind.i64.min ≤ n ∧ n ≤ IntKind.i64.max := h
theorem arr_size (l : List UInt8) : (⟨l.toArray⟩ : ByteArray).size = l.length := bs_size l
def opens : List D → List UInt8
  | [] => []
  | d :: ds => if d.n == 1 then opens ds else opens ds ++ [91]
def closes : List D → List UInt8
  | [] => []
  | d :: ds => if d.n == 1 then closes ds ++ [33] else closes ds ++ [93]
theorem opens_comm : ∀ l, [91] ++ opens l = opens l ++ [91]
  | [] => rfl
  | d :: ds => by
    have := opens_comm ds
    unfold opens
    split
    · exact this
    · rw [← List.append_assoc, this]
theorem refB_eq (n : List UInt8) : ∀ l, refB n l = opens l ++ n ++ closes l
  | [] => by simp [refB, opens, closes]
  | d :: ds => by
    unfold refB opens closes
    rw [refB_eq n ds]
    split
    · simp
    · rw [← opens_comm]; simp
theorem opens_length : ∀ l, (opens l).length ≤ l.length
  | [] => Nat.le_refl _
  | d :: ds => by
    have := opens_length ds
    unfold opens
    split <;> simp <;> omega
theorem closes_length : ∀ l, (closes l).length = l.length
  | [] => rfl
  | d :: ds => by
    have := closes_length ds
    unfold closes
    split <;> simp <;> omega
def H150 (n : List UInt8) (l : List D) (j : Nat) : Vst 29 :=
  stS 29 [(1, .bx 1 0), (3, .bx 3 0), (4, .bx 4 0), (5, .c (.int .i64 ((j : Int) - 1)))] [(1, .box 62 [.c (.string (bs n)), .sl 3 l]), (3, .bld 70 5 (opens (l.drop j))), (4, .bld 70 5 (closes (l.drop j)))]
set_option maxRecDepth 100000 in
theorem refP_ac (n : List UInt8) (l : List D) (hn : n.length ≤ 2000000) (hl : l.length ≤ 2000000) : AC EN Tryd.prog 150 [.agg [.c (.string (bs n)), .sl 3 l]] (.c (.string (bs (refB n l)))) := by
  have ho := opens_length
  have hc := closes_length
  refine ac_enter 29 Tryd.func150 rfl rfl rfl rfl ?_
  intro s w he
  repeat' (first
    | refine aw_seq ?_
    | refine aw_region ?_
    | refine awo_nil ?_
    | refine k_seq ?_
    | refine k_block ?_
    | refine k_scope ?_
    | refine aw_block ?_
    | refine aw_skip ?_
    | refine aw_label ?_
    | refine aw_scope ?_
    | (apply s_val rfl
       · conv => lhs; whnf
       · conv => lhs; whnf; arg 2; whnf)
    | (apply s_call rfl
       · conv => lhs; whnf
       · conv => lhs; whnf
       · first | fail)
    | (apply s_box rfl rfl rfl rfl
       · conv => lhs; whnf; arg 1; whnf
       · rfl)
    | (apply s_alloc rfl rfl rfl rfl
       · conv => lhs; whnf; arg 1; whnf
       · rfl)
    | (apply aw_draw (by kernel_rfl) (by kernel_rfl))
    | apply y_nil
    | (apply y_val rfl
       · conv => lhs; whnf
       · conv => lhs; whnf; arg 2; whnf)
    | (apply y_call rfl
       · conv => lhs; whnf
       · conv => lhs; whnf
       · first | fail)
    | exact apartB_none
    | exact apartB_nil
    | exact all_nil
    | (show List.all _ _ = true; rfl)
    | (show apartB _ _ = true; rfl)
    | exact ([] : List Nat)
    | exact (1000000 : Nat)
    | (apply aw_cond_t
       · conv => lhs; whnf; arg 1; arg 1; whnf)
    | (apply aw_cond_f
       · conv => lhs; whnf; arg 1; arg 1; whnf)
    | (refine aw_cond (by conv => lhs; whnf) ?_ ?_ <;> intro hb)
    | refine aw_ret ?_
    | refine aw_exit ?_
    | refine k_seq_exit ?_
    | refine k_seq_ret ?_
    | refine k_block_ret ?_
    | refine k_block_hit rfl ?_
    | refine k_block_miss rfl ?_
    | refine k_scope_exit ?_
    | refine k_scope_ret ?_
    | refine k_loop_exit ?_
    | refine k_loop_ret ?_
    | refine k_end ?_
    | refine k_end_ret ?_
    | (refine ⟨_, by conv => lhs; whnf; arg 2; whnf, ?_⟩; conv => rhs; whnf)
    | exact trivial
    | intro hg)
  · refine aw_sub ((Sub.bld (m := 3) (e := 5) rfl).trans (Sub.bld (m := 4) (e := 5) rfl)) ?_
    refine aw_loop (fun j st => j ≤ l.length ∧ Sub (cx EN Tryd.prog s w he) st (H150 n l j)) l.length ⟨Nat.le_refl _, ?_⟩ ?_
    · refine Sub.live ⟨rfl, rfl, rfl, rfl, trivial⟩ ⟨rfl, ?_, ?_, trivial⟩
      · rw [List.drop_length]; rfl
      · rw [List.drop_length]; rfl
    · rintro j st ⟨hj, hs⟩
      refine aw_sub hs ?_
      have h1 := ho (l.drop j)
      have h2 := hc (l.drop j)
      rw [List.length_drop] at h1 h2
      have hdrop : 0 < j → l.drop (j - 1) = gD l (j - 1) :: l.drop j := fun h => by
        have hlt : j - 1 < l.length := by omega
        rw [List.drop_eq_getElem_cons hlt, show j - 1 + 1 = j by omega]
        congr 1
        unfold gD; rw [List.getD_eq_getElem?_getD, List.getElem?_eq_getElem hlt]; rfl
      have hnat : ((j : Int) - 1).toNat = j - 1 := by omega
      repeat' (first
    | (apply s_wb rfl
       · conv => lhs; whnf
       · conv => lhs; whnf
       · rfl
       · conv => lhs; whnf; arg 1; whnf
       · rfl
       · rfl)
    | (apply y_bs rfl
       · conv => lhs; whnf
       · conv => lhs; whnf
       · rfl
       · conv => lhs; whnf; arg 1; whnf
       · rfl)
    | refine aw_seq ?_
    | refine aw_region ?_
    | refine awo_nil ?_
    | refine k_seq ?_
    | refine k_block ?_
    | refine k_scope ?_
    | refine aw_block ?_
    | refine aw_skip ?_
    | refine aw_label ?_
    | refine aw_scope ?_
    | (apply s_val rfl
       · conv => lhs; whnf
       · conv => lhs; whnf; arg 2; whnf)
    | (apply s_call rfl
       · conv => lhs; whnf
       · conv => lhs; whnf
       · first | fail)
    | (apply s_box rfl rfl rfl rfl
       · conv => lhs; whnf; arg 1; whnf
       · rfl)
    | (apply s_alloc rfl rfl rfl rfl
       · conv => lhs; whnf; arg 1; whnf
       · rfl)
    | (apply aw_draw (by kernel_rfl) (by kernel_rfl))
    | apply y_nil
    | (apply y_val rfl
       · conv => lhs; whnf
       · conv => lhs; whnf; arg 2; whnf)
    | (apply y_call rfl
       · conv => lhs; whnf
       · conv => lhs; whnf
       · first | fail)
    | exact apartB_none
    | exact apartB_nil
    | exact all_nil
    | (show List.all _ _ = true; rfl)
    | (show apartB _ _ = true; rfl)
    | exact ([] : List Nat)
    | exact (1000000 : Nat)
    | (apply aw_cond_t
       · conv => lhs; whnf; arg 1; arg 1; whnf)
    | (apply aw_cond_f
       · conv => lhs; whnf; arg 1; arg 1; whnf)
    | (refine aw_cond (by conv => lhs; whnf) ?_ ?_ <;> intro hb)
    | refine aw_ret ?_
    | refine aw_exit ?_
    | refine k_seq_exit ?_
    | refine k_seq_ret ?_
    | refine k_block_ret ?_
    | refine k_block_hit rfl ?_
    | refine k_block_miss rfl ?_
    | refine k_scope_exit ?_
    | refine k_scope_ret ?_
    | refine k_loop_exit ?_
    | refine k_loop_ret ?_
    | refine k_end ?_
    | refine k_end_ret ?_
    | (refine ⟨_, by conv => lhs; whnf; arg 2; whnf, ?_⟩; conv => rhs; whnf)
    | exact trivial
    | intro hg)
      · rename_i hb0
        have hj0 : 0 < j := by simp at hb0; omega
        refine k_loop_next (j' := j - 1) (by omega) ⟨by omega, Sub.live ⟨rfl, rfl, rfl, ?_, trivial⟩ ⟨rfl, ?_, ?_, trivial⟩⟩
        · show V.c (.int .i64 ((j : Int) - 1 - 1)) = _
          rw [show ((j - 1 : Nat) : Int) - 1 = (j : Int) - 1 - 1 by omega]
        · show some (Res.bld _ _ (opens (l.drop j))) = _
          rw [hdrop hj0, opens]
          rw [hnat] at hb
          rw [if_pos hb]
        · show some (Res.bld _ _ (closes (l.drop j) ++ [33])) = _
          rw [hdrop hj0, closes]
          rw [hnat] at hb
          rw [if_pos hb]
      · exact i64_ok (by omega)
      · omega
      · rename_i hb0
        have hj0 : 0 < j := by simp at hb0; omega
        refine k_loop_next (j' := j - 1) (by omega) ⟨by omega, Sub.live ⟨rfl, rfl, rfl, ?_, trivial⟩ ⟨rfl, ?_, ?_, trivial⟩⟩
        · show V.c (.int .i64 ((j : Int) - 1 - 1)) = _
          rw [show ((j - 1 : Nat) : Int) - 1 = (j : Int) - 1 - 1 by omega]
        · show some (Res.bld _ _ (opens (l.drop j) ++ [91])) = _
          rw [hdrop hj0, opens]
          rw [hnat] at hb
          rw [if_neg (by rw [hb]; simp)]
        · show some (Res.bld _ _ (closes (l.drop j) ++ [93])) = _
          rw [hdrop hj0, closes]
          rw [hnat] at hb
          rw [if_neg (by rw [hb]; simp)]
      · exact i64_ok (by omega)
      · omega
      · omega
      · simp at hb; omega
      · have hj0 : j = 0 := by simp at hb; omega
        subst hj0
        rw [List.drop_zero, refB_eq, ← bs_append, ← bs_append]
        rfl
      all_goals (simp only [ByteArray.size_append, bs_size, arr_size, maxLen]; omega)
  · exact i64_ok (by omega)
end Go.Proofs.YtohneabalakmeaaDoor
