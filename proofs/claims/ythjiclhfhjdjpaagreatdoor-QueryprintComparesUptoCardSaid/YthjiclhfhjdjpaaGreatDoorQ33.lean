/- Parts of a proof, merged by a program (shake.py). -/
import Derived.Test.YthjiclhfhjdjpaaGreatDoorQ32
set_option linter.unusedVariables false
set_option linter.unusedSimpArgs false
namespace Go.Proofs.YthjiclhfhjdjpaaGreatDoor
open Go.RowKit
set_option linter.unusedSectionVars false
attribute [local irreducible] wpList Calls Code.wp AW AWo OpOk seqK blockK scopeK loopK endK AC absLex Yld Sub
attribute [local irreducible] ACB ACX absLexG YldG absLexH
def av5 : D := valD 2 5 [] [] []
def av0 : D := valD 2 0 [] [] []
def ag5 : D := argD [110] av5
def ag0 : D := argD [110] av0
def nmT : List UInt8 := [110, 97, 109, 101]
def se5 : D := selD 1 [97] nmT [] [ag5] [] []
def se0 : D := selD 1 [] nmT [] [ag0] [] []
def op5 : D := opD 3 [] [] [se5]
def op0 : D := opD 3 [] [] [se0]
set_option maxHeartbeats 8000000 in
set_option maxRecDepth 100000 in
theorem blank_ac : AC EN Tryz.prog 107 [.agg (cellsV Tryz.prog 12 84 av5)] (.agg (cellsV Tryz.prog 12 84 av0)) := by
  refine ac_enter 15 Tryz.func107 rfl rfl rfl rfl ?_
  intro s w he
  repeat' (first
 | (apply s_valW (WV av0) rfl rfl
    · conv => lhs; whnf; arg 2; whnf
    · repeat' (first | exact VLe.refl _ | exact VLe.nil _ | exact VLe.lit _ _ | exact VLe.own _ _ _ | apply VLe.agg | apply VLeL.cons | exact VLeL.nil))
 | refine aw_region ?_
 | refine awo_nil ?_
 | refine k_seq ?_
 | (apply aw_1
    conv => whnf
    refine ⟨?_, trivial⟩)
 | (apply s_1
    conv => whnf; arg 1; arg 4; arg 3; whnf
    refine ⟨?_, ?_⟩)
 | (apply s_box rfl rfl rfl rfl
    · conv => lhs; whnf; arg 1; whnf
    · rfl)
 | (apply s_store rfl rfl rfl
    · conv => lhs; whnf
    · conv => lhs; whnf; arg 1; whnf
    · conv => lhs; whnf; arg 1; whnf
    · exact ⟨by kernel_rfl, by kernel_rfl⟩
    · rfl)
 | refine k_seq_ret ?_
 | refine k_block_ret ?_
 | refine k_end_ret ?_
 | (refine ⟨_, by conv => lhs; whnf; arg 2; whnf, ?_⟩; conv => rhs; whnf)
 | exact trivial)
  all_goals rfl
noncomputable def HBa (o : List D) (i : Int) : Vst 25 := stS 25 [(3, .own 3 86 o), (6, .sl 86 [ag5]), (7, .c (.int .i64 1)), (8, .c (.int .i64 i))] [(3, .tok 86 o.length)]
set_option maxHeartbeats 8000000 in
set_option maxRecDepth 100000 in
theorem blankArgs_ac : AC EN Tryz.prog 182 [.sl 86 [ag5]] (.sl 86 [ag0]) := by
  refine ac_enter 25 Tryz.func182 rfl rfl rfl rfl ?_
  intro s w he
  repeat' (first
 | refine aw_region ?_
 | refine awo_nil ?_
 | refine k_seq ?_
 | (apply aw_1
    conv => whnf
    refine ⟨?_, trivial⟩)
 | (apply s_1
    conv => whnf; arg 1; arg 4; arg 3; whnf
    refine ⟨?_, ?_⟩)
 | exact trivial)
  refine aw_sub (Sub.own (t := 3) (e := 86) rfl rfl) ?_
  refine aw_loop (fun j st => (j = 1 ∧ Sub (cx EN Tryz.prog s w he) st (HBa [] 0)) ∨ (j = 0 ∧ Sub (cx EN Tryz.prog s w he) st (HBa [ag0] 1))) 1 (.inl ⟨rfl, Sub.live ⟨rfl, rfl, rfl, rfl, trivial⟩ ⟨rfl, trivial⟩⟩) ?_
  rintro j st (⟨rfl, hs⟩ | ⟨rfl, hs⟩)
  · refine aw_sub hs ?_
    repeat' (first
 | (apply g_valW (WA ag0) rfl rfl
    · conv => lhs; whnf; arg 2; whnf
    · repeat' (first | exact VLe.refl _ | exact VLe.nil _ | exact VLe.lit _ _ | exact VLe.own _ _ _ | apply VLe.agg | apply VLeL.cons | exact VLeL.nil))
 | (apply g_lit [ag0] rfl rfl
    · conv => lhs; whnf
    · first | exact elemA9 | (conv => lhs; whnf; arg 1; whnf)
    · rfl
    · rfl
    · repeat' (first | exact trivial | apply And.intro | rfl))
 | (apply aw_drawGn 10 ([(2,[5]),(4,[5])]) ([(8,[3])]) rfl (by kernel_rfl) (by kernel_rfl) (by kernel_rfl))
 | apply g_nil
 | (apply g_val rfl
    · conv => lhs; whnf
    · conv => lhs; whnf; arg 2; whnf)
 | (apply g_call rfl
    · conv => lhs; whnf
    · conv => lhs; whnf
    · first | exact blank_ac)
 | (apply g_app rfl rfl
    · conv => lhs; whnf
    · first | exact elemA9 | (conv => lhs; whnf; arg 1; whnf)
    · first | exact fun _ => rfl | (intro _; kernel_rfl)
    · conv => lhs; whnf
    · rfl
    · conv => lhs; whnf; arg 1; whnf
    · conv => lhs; whnf)
 | (show inO _ _ = true; rfl)
 | refine aw_region ?_
 | refine awo_nil ?_
 | refine k_seq ?_
 | refine k_block ?_
 | (apply aw_1
    conv => whnf
    refine ⟨?_, trivial⟩)
 | (apply s_1
    conv => whnf; arg 1; arg 4; arg 3; whnf
    refine ⟨?_, ?_⟩)
 | (apply s_store rfl rfl rfl
    · conv => lhs; whnf
    · conv => lhs; whnf; arg 1; whnf
    · conv => lhs; whnf; arg 1; whnf
    · exact ⟨by kernel_rfl, by kernel_rfl⟩
    · rfl)
 | exact trivial)
    · exact k_loop_next (Nat.lt_succ_self 0) (.inr ⟨rfl, Sub.live ⟨rfl, rfl, rfl, rfl, trivial⟩ ⟨rfl, trivial⟩⟩)
    all_goals decide
  · refine aw_sub hs ?_
    repeat' (first
 | refine aw_region ?_
 | refine awo_nil ?_
 | refine k_seq ?_
 | (apply aw_1
    conv => whnf
    refine ⟨?_, trivial⟩)
 | (apply s_1
    conv => whnf; arg 1; arg 4; arg 3; whnf
    refine ⟨?_, ?_⟩)
 | (apply s_call rfl
    · conv => lhs; whnf
    · conv => lhs; whnf
    · first | exact sortArg_ac [ag0] (by decide) _)
 | refine k_seq_exit ?_
 | refine k_block_hit rfl ?_
 | refine k_loop_exit ?_
 | refine k_end_ret ?_
 | (refine ⟨_, by conv => lhs; whnf; arg 2; whnf, ?_⟩; conv => rhs; whnf)
 | exact trivial)
    all_goals first
      | rfl
      | decide
set_option maxHeartbeats 8000000 in
set_option maxRecDepth 100000 in
theorem blankSels0_ac : AC EN Tryz.prog 106 [.sl 76 []] (.c (.slice none 0 0)) := by
  refine ac_enter 58 Tryz.func106 rfl rfl rfl rfl ?_
  intro s w he
  repeat' (first
 | refine aw_region ?_
 | refine awo_nil ?_
 | refine k_seq ?_
 | (apply aw_1
    conv => whnf
    refine ⟨?_, trivial⟩)
 | (apply s_1
    conv => whnf; arg 1; arg 4; arg 3; whnf
    refine ⟨?_, ?_⟩)
 | exact trivial)
  all_goals first
    | decide
    | skip
  refine aw_loop (fun _ st => Sub (cx EN Tryz.prog s w he) st (stS 58 [(3, .c (.slice none 0 0)), (9, .sl 76 []), (10, .c (.int .i64 0)), (11, .c (.int .i64 0))] [])) 0 (Sub.live ⟨rfl, rfl, rfl, rfl, trivial⟩ trivial) ?_
  rintro j st hs
  refine aw_sub hs ?_
  repeat' (first
 | refine aw_region ?_
 | refine awo_nil ?_
 | refine k_seq ?_
 | (apply aw_1
    conv => whnf
    refine ⟨?_, trivial⟩)
 | (apply s_1
    conv => whnf; arg 1; arg 4; arg 3; whnf
    refine ⟨?_, ?_⟩)
 | (apply s_call rfl
    · conv => lhs; whnf
    · conv => lhs; whnf
    · first | exact sortSelN_ac _)
 | refine k_seq_exit ?_
 | refine k_block_hit rfl ?_
 | refine k_loop_exit ?_
 | refine k_end_ret ?_
 | (refine ⟨_, by conv => lhs; whnf; arg 2; whnf, ?_⟩; conv => rhs; whnf)
 | exact trivial)
  all_goals first
    | rfl
    | decide
noncomputable def HBs (o : List D) (i : Int) : Vst 58 := stS 58 [(3, .own 3 76 o), (9, .sl 76 [se5]), (10, .c (.int .i64 1)), (11, .c (.int .i64 i))] [(3, .tok 76 o.length)]
noncomputable def HBd : Vst 58 := stS 58 [(3, .own 3 76 []), (6, .bx 6 0), (9, .sl 76 [se5]), (10, .c (.int .i64 1)), (11, .c (.int .i64 0)), (29, .sl 150 []), (30, .c (.int .i64 0)), (31, .c (.int .i64 0))] [(3, .tok 76 ([] : List D).length), (6, .box 76 (cellsV Tryz.prog 12 76 se0))]
noncomputable def HBc : Vst 58 := stS 58 [(3, .own 3 76 []), (5, .bx 5 0), (9, .sl 76 [se5]), (10, .c (.int .i64 1)), (11, .c (.int .i64 0))] [(3, .tok 76 ([] : List D).length), (5, .box 76 (cellsV Tryz.prog 12 76 se5))]
set_option maxHeartbeats 8000000 in
set_option maxRecDepth 100000 in
theorem blankSels1_ac : AC EN Tryz.prog 106 [.sl 76 [se5]] (.sl 76 [se0]) := by
  have h1 := blankArgs_ac
  have h2 := blankSels0_ac
  refine ac_enter 58 Tryz.func106 rfl rfl rfl rfl ?_
  intro s w he
  repeat' (first
 | refine aw_region ?_
 | refine awo_nil ?_
 | refine k_seq ?_
 | (apply aw_1
    conv => whnf
    refine ⟨?_, trivial⟩)
 | (apply s_1
    conv => whnf; arg 1; arg 4; arg 3; whnf
    refine ⟨?_, ?_⟩)
 | exact trivial)
  refine aw_sub (Sub.own (t := 3) (e := 76) rfl rfl) ?_
  refine aw_loop (fun j st => (j = 1 ∧ Sub (cx EN Tryz.prog s w he) st (HBs [] 0)) ∨ (j = 0 ∧ Sub (cx EN Tryz.prog s w he) st (HBs [se0] 1))) 1 (.inl ⟨rfl, Sub.live ⟨rfl, rfl, rfl, rfl, trivial⟩ ⟨rfl, trivial⟩⟩) ?_
  rintro j st (⟨rfl, hs⟩ | ⟨rfl, hs⟩)
  · refine aw_sub hs ?_
    clear hs
    repeat' (first
 | (apply aw_drawA ([(1,[5]),(3,[5]),(5,[5]),(7,[5]),(10,[5])]) ([(13,[6]),(14,[6])]) ([(13,6)]) rfl (by kernel_rfl) (by kernel_rfl) (by kernel_rfl) (by intro p hp; simp only [List.mem_cons, List.not_mem_nil, or_false] at hp; rcases hp with rfl <;> (repeat' (first | exact fresh_S rfl | refine fresh_put ?_ rfl | refine fresh_res ?_ rfl rfl))))
 | apply h_nil
 | (apply h_valW ((WS se0)) rfl rfl
    · conv => lhs; whnf; arg 2; whnf
    · repeat' (first | exact VLe.refl _ | exact VLe.nil _ | exact VLe.lit _ _ | exact VLe.own _ _ _ | apply VLe.agg | apply VLeL.cons | exact VLeL.nil)
    · kernel_rfl)
 | (apply h_alloc rfl rfl rfl rfl
    · conv => lhs; whnf; arg 1; whnf
    · rfl
    · rfl
    · kernel_rfl)
 | (apply h_val rfl
    · conv => lhs; whnf
    · conv => lhs; whnf; arg 2; whnf
    · kernel_rfl)
 | (apply h_store rfl rfl rfl
    · conv => lhs; whnf
    · rfl
    · conv => lhs; whnf; arg 1; whnf
    · conv => lhs; whnf; arg 1; whnf
    · exact ⟨by kernel_rfl, by kernel_rfl⟩
    · rfl
    · kernel_rfl)
 | (apply h_call rfl
    · conv => lhs; whnf
    · conv => lhs; whnf
    · first | exact h1 | exact h2
    · kernel_rfl)
 | (show inO _ _ = true; rfl)
 | apply aw_cutAt 5 (HBc) rfl
 | refine k_cut ?_
 | refine aw_region ?_
 | refine awo_nil ?_
 | refine k_seq ?_
 | (apply aw_1
    conv => whnf
    refine ⟨?_, trivial⟩)
 | (apply s_1
    conv => whnf; arg 1; arg 4; arg 3; whnf
    refine ⟨?_, ?_⟩)
 | (apply s_store rfl rfl rfl
    · conv => lhs; whnf
    · conv => lhs; whnf; arg 1; whnf
    · conv => lhs; whnf; arg 1; whnf
    · exact ⟨by kernel_rfl, by kernel_rfl⟩
    · rfl)
 | exact trivial)
    all_goals first
      | exact Sub.live ⟨rfl, rfl, rfl, rfl, rfl, trivial⟩ ⟨rfl, rfl, trivial⟩
      | decide
      | skip
    refine aw_loop (fun _ st => Sub (cx EN Tryz.prog s w he) st HBd) 0 (Sub.live ⟨rfl, rfl, rfl, rfl, rfl, rfl, rfl, rfl, trivial⟩ ⟨rfl, rfl, trivial⟩) ?_
    rintro j2 st2 hs
    refine aw_sub hs ?_
    clear hs
    repeat' (first
 | (apply s_lit [se0] rfl rfl
    · conv => lhs; whnf
    · first | exact elemS9 | (conv => lhs; whnf; arg 1; whnf)
    · rfl
    · rfl
    · repeat' (first | exact trivial | apply And.intro | rfl))
 | refine aw_region ?_
 | refine awo_nil ?_
 | refine k_seq ?_
 | refine k_block ?_
 | (apply aw_1
    conv => whnf
    refine ⟨?_, trivial⟩)
 | (apply s_1
    conv => whnf; arg 1; arg 4; arg 3; whnf
    refine ⟨?_, ?_⟩)
 | (apply s_call rfl
    · conv => lhs; whnf
    · conv => lhs; whnf
    · first | exact sortDir_ac [] (by decide) _)
 | (apply s_app rfl rfl
    · conv => lhs; whnf
    · first | exact elemS9 | (conv => lhs; whnf; arg 1; whnf)
    · first | exact fun _ => rfl | (intro _; kernel_rfl)
    · conv => lhs; whnf
    · conv => lhs; whnf; arg 1; whnf
    · conv => lhs; whnf)
 | refine k_seq_exit ?_
 | refine k_block_hit rfl ?_
 | refine k_loop_exit ?_
 | exact trivial)
    all_goals first
      | exact k_loop_next (Nat.lt_succ_self 0) (Or.inr ⟨rfl, Sub.live ⟨rfl, rfl, rfl, rfl, trivial⟩ ⟨rfl, trivial⟩⟩)
      | decide
      | skip
  · refine aw_sub hs ?_
    clear hs
    repeat' (first
 | refine aw_region ?_
 | refine awo_nil ?_
 | refine k_seq ?_
 | (apply aw_1
    conv => whnf
    refine ⟨?_, trivial⟩)
 | (apply s_1
    conv => whnf; arg 1; arg 4; arg 3; whnf
    refine ⟨?_, ?_⟩)
 | (apply s_call rfl
    · conv => lhs; whnf
    · conv => lhs; whnf
    · first | exact sortSel_ac [se0] (by decide) _)
 | refine k_seq_exit ?_
 | refine k_block_hit rfl ?_
 | refine k_loop_exit ?_
 | refine k_end_ret ?_
 | (refine ⟨_, by conv => lhs; whnf; arg 2; whnf, ?_⟩; conv => rhs; whnf)
 | exact trivial)
    all_goals first
      | rfl
      | decide
noncomputable def HRc (l : List D) (n i : Int) : Vst 52 := stS 52 [(2, .c (.slice none 0 0)), (3, .bx 3 0), (10, .sl 76 l), (11, .c (.int .i64 n)), (12, .c (.int .i64 i))] [(3, .box 41 [.sl 57 [op5], .sl 116 []])]
set_option maxHeartbeats 8000000 in
set_option maxRecDepth 100000 in
theorem reach0_ac : AC EN Tryz.prog 111 [.agg [.sl 57 [op5], .sl 116 []], .sl 76 [], .c (.slice none 0 0)] (.c (.slice none 0 0)) := by
  refine ac_enter 52 Tryz.func111 rfl rfl rfl rfl ?_
  intro s w he
  repeat' (first
 | refine aw_region ?_
 | refine awo_nil ?_
 | refine k_seq ?_
 | (apply aw_1
    conv => whnf
    refine ⟨?_, trivial⟩)
 | (apply s_1
    conv => whnf; arg 1; arg 4; arg 3; whnf
    refine ⟨?_, ?_⟩)
 | (apply s_box rfl rfl rfl rfl
    · conv => lhs; whnf; arg 1; whnf
    · rfl)
 | exact trivial)
  all_goals first
    | decide
    | skip
  refine aw_loop (fun _ st => Sub (cx EN Tryz.prog s w he) st (HRc [] 0 0)) 0 (Sub.live ⟨rfl, rfl, rfl, rfl, rfl, trivial⟩ ⟨rfl, trivial⟩) ?_
  rintro j st hs
  refine aw_sub hs ?_
  clear hs
  repeat' (first
 | refine aw_region ?_
 | refine awo_nil ?_
 | refine k_seq ?_
 | (apply aw_1
    conv => whnf
    refine ⟨?_, trivial⟩)
 | (apply s_1
    conv => whnf; arg 1; arg 4; arg 3; whnf
    refine ⟨?_, ?_⟩)
 | refine k_seq_exit ?_
 | refine k_block_hit rfl ?_
 | refine k_loop_exit ?_
 | refine k_end_ret ?_
 | (refine ⟨_, by conv => lhs; whnf; arg 2; whnf, ?_⟩; conv => rhs; whnf)
 | exact trivial)
  all_goals first
    | rfl
    | decide
set_option maxHeartbeats 8000000 in
set_option maxRecDepth 100000 in
theorem reach1_ac : AC EN Tryz.prog 111 [.agg [.sl 57 [op5], .sl 116 []], .sl 76 [se5], .c (.slice none 0 0)] (.c (.slice none 0 0)) := by
  have h1 := reach0_ac
  refine ac_enter 52 Tryz.func111 rfl rfl rfl rfl ?_
  intro s w he
  repeat' (first
 | refine aw_region ?_
 | refine awo_nil ?_
 | refine k_seq ?_
 | (apply aw_1
    conv => whnf
    refine ⟨?_, trivial⟩)
 | (apply s_1
    conv => whnf; arg 1; arg 4; arg 3; whnf
    refine ⟨?_, ?_⟩)
 | (apply s_box rfl rfl rfl rfl
    · conv => lhs; whnf; arg 1; whnf
    · rfl)
 | exact trivial)
  all_goals first
    | decide
    | skip
  refine aw_loop (fun j st => (j = 1 ∧ Sub (cx EN Tryz.prog s w he) st (HRc [se5] 1 0)) ∨ (j = 0 ∧ Sub (cx EN Tryz.prog s w he) st (HRc [se5] 1 1))) 1 (.inl ⟨rfl, Sub.live ⟨rfl, rfl, rfl, rfl, rfl, trivial⟩ ⟨rfl, trivial⟩⟩) ?_
  rintro j st (⟨rfl, hs⟩ | ⟨rfl, hs⟩)
  · refine aw_sub hs ?_
    clear hs
    repeat' (first
 | refine aw_region ?_
 | refine awo_nil ?_
 | refine k_seq ?_
 | (apply aw_1
    conv => whnf
    refine ⟨?_, trivial⟩)
 | (apply s_1
    conv => whnf; arg 1; arg 4; arg 3; whnf
    refine ⟨?_, ?_⟩)
 | (apply s_call rfl
    · conv => lhs; whnf
    · conv => lhs; whnf
    · first | exact h1)
 | (apply s_store rfl rfl rfl
    · conv => lhs; whnf
    · conv => lhs; whnf; arg 1; whnf
    · conv => lhs; whnf; arg 1; whnf
    · exact ⟨by kernel_rfl, by kernel_rfl⟩
    · rfl)
 | refine k_seq_exit ?_
 | refine k_block_hit rfl ?_
 | exact trivial)
    · exact k_loop_next (Nat.lt_succ_self 0) (.inr ⟨rfl, Sub.live ⟨rfl, rfl, rfl, rfl, rfl, trivial⟩ ⟨rfl, trivial⟩⟩)
    all_goals decide
  · refine aw_sub hs ?_
    clear hs
    repeat' (first
 | refine aw_region ?_
 | refine awo_nil ?_
 | refine k_seq ?_
 | (apply aw_1
    conv => whnf
    refine ⟨?_, trivial⟩)
 | (apply s_1
    conv => whnf; arg 1; arg 4; arg 3; whnf
    refine ⟨?_, ?_⟩)
 | refine k_seq_exit ?_
 | refine k_block_hit rfl ?_
 | refine k_loop_exit ?_
 | refine k_end_ret ?_
 | (refine ⟨_, by conv => lhs; whnf; arg 2; whnf, ?_⟩; conv => rhs; whnf)
 | exact trivial)
    all_goals first
      | rfl
      | decide
set_option maxHeartbeats 8000000 in
set_option maxRecDepth 100000 in
theorem insStr_ac : AC EN Tryz.prog 268 [.c (.slice none 0 0), .c (.int .i64 0), .c (.int .i64 0)] (.tup []) := by
  refine ac_enter 49 Tryz.func268 rfl rfl rfl rfl ?_
  intro s w he
  repeat' (first
 | refine aw_region ?_
 | refine awo_nil ?_
 | refine k_seq ?_
 | (apply aw_1
    conv => whnf
    refine ⟨?_, trivial⟩)
 | (apply s_1
    conv => whnf; arg 1; arg 4; arg 3; whnf
    refine ⟨?_, ?_⟩)
 | exact trivial)
  · refine aw_loop (fun _ st => Sub (cx EN Tryz.prog s w he) st (stS 49 [(2, .c (.int .i64 0)), (6, .c (.int .i64 (0 + 1)))] [])) 0 (Sub.live ⟨rfl, rfl, trivial⟩ trivial) ?_
    rintro j st hs
    refine aw_sub hs ?_
    repeat' (first
 | refine aw_region ?_
 | refine awo_nil ?_
 | refine k_seq ?_
 | (apply aw_1
    conv => whnf
    refine ⟨?_, trivial⟩)
 | (apply s_1
    conv => whnf; arg 1; arg 4; arg 3; whnf
    refine ⟨?_, ?_⟩)
 | refine k_seq_exit ?_
 | refine k_block_hit rfl ?_
 | refine k_loop_exit ?_
 | refine k_end ?_
 | exact trivial)
    all_goals rfl
  · decide
set_option maxHeartbeats 8000000 in
set_option maxRecDepth 100000 in
theorem pdq_ac (n : Int) : AC EN Tryz.prog 195 [.c (.slice none 0 0), .c (.int .i64 0), .c (.int .i64 0), .c (.int .i64 n)] (.tup []) := by
  have h1 := insStr_ac
  refine ac_enter 134 Tryz.func195 rfl rfl rfl rfl ?_
  intro s w he
  repeat' (first
 | refine aw_region ?_
 | refine awo_nil ?_
 | refine k_seq ?_
 | (apply aw_1
    conv => whnf
    refine ⟨?_, trivial⟩)
 | (apply s_1
    conv => whnf; arg 1; arg 4; arg 3; whnf
    refine ⟨?_, ?_⟩)
 | exact trivial)
  refine aw_loop (fun _ st => Sub (cx EN Tryz.prog s w he) st (stS 134 [(0, .c (.slice none 0 0)), (1, .c (.int .i64 0)), (2, .c (.int .i64 0)), (3, .c (.int .i64 n))] [])) 0 (Sub.live ⟨rfl, rfl, rfl, rfl, trivial⟩ trivial) ?_
  rintro j st hs
  refine aw_sub hs ?_
  clear hs
  repeat' (first
 | refine aw_region ?_
 | refine awo_nil ?_
 | refine k_seq ?_
 | (apply aw_1
    conv => whnf
    refine ⟨?_, trivial⟩)
 | (apply s_1
    conv => whnf; arg 1; arg 4; arg 3; whnf
    refine ⟨?_, ?_⟩)
 | (apply s_call rfl
    · conv => lhs; whnf
    · conv => lhs; whnf
    · first | exact h1)
 | refine k_seq_ret ?_
 | refine k_block_ret ?_
 | refine k_loop_ret ?_
 | refine k_end_ret ?_
 | exact trivial)
  all_goals first
    | rfl
    | decide
set_option maxHeartbeats 8000000 in
set_option maxRecDepth 100000 in
theorem len64_ac : AC EN Tryz.prog 278 [.c (.int .u64 0)] (.c (.int .i64 0)) := by
  refine ac_enter 25 Tryz.func278 rfl rfl rfl rfl ?_
  intro s w he
  repeat' (first
 | refine aw_region ?_
 | refine awo_nil ?_
 | refine k_seq ?_
 | (apply aw_1
    conv => whnf
    refine ⟨?_, trivial⟩)
 | (apply s_1
    conv => whnf; arg 1; arg 4; arg 3; whnf
    refine ⟨?_, ?_⟩)
 | refine k_end_ret ?_
 | (refine ⟨_, by conv => lhs; whnf; arg 2; whnf, ?_⟩; conv => rhs; whnf)
 | exact trivial)
  all_goals first
    | rfl
    | decide
    | exact ⟨by kernel_rfl, Int.le_refl _, of_decide_eq_true (by kernel_rfl)⟩
set_option maxHeartbeats 8000000 in
set_option maxRecDepth 100000 in
theorem bitsLen_ac : AC EN Tryz.prog 196 [.c (.int .u64 0)] (.c (.int .i64 0)) := by
  have h1 := len64_ac
  refine ac_enter 8 Tryz.func196 rfl rfl rfl rfl ?_
  intro s w he
  repeat' (first
 | refine aw_region ?_
 | refine awo_nil ?_
 | refine k_seq ?_
 | (apply aw_1
    conv => whnf
    refine ⟨?_, trivial⟩)
 | (apply s_1
    conv => whnf; arg 1; arg 4; arg 3; whnf
    refine ⟨?_, ?_⟩)
 | (apply s_call rfl
    · conv => lhs; whnf
    · conv => lhs; whnf
    · first | exact h1)
 | refine k_end_ret ?_
 | (refine ⟨_, by conv => lhs; whnf; arg 2; whnf, ?_⟩; conv => rhs; whnf)
 | exact trivial)
  all_goals first
    | rfl
    | decide
set_option maxHeartbeats 8000000 in
set_option maxRecDepth 100000 in
theorem sortStr_ac : AC EN Tryz.prog 112 [.c (.slice none 0 0)] (.tup []) := by
  have h1 := bitsLen_ac
  have h2 := pdq_ac 0
  refine ac_enter 11 Tryz.func112 rfl rfl rfl rfl ?_
  intro s w he
  repeat' (first
 | refine aw_region ?_
 | refine awo_nil ?_
 | refine k_seq ?_
 | (apply aw_1
    conv => whnf
    refine ⟨?_, trivial⟩)
 | (apply s_1
    conv => whnf; arg 1; arg 4; arg 3; whnf
    refine ⟨?_, ?_⟩)
 | (apply s_call rfl
    · conv => lhs; whnf
    · conv => lhs; whnf
    · first | exact h1 | exact h2)
 | refine k_end ?_
 | exact trivial)
  all_goals first
    | rfl
    | decide
noncomputable def WQ (o : List D) : V := .agg [.sl 57 o, .sl 116 []]
noncomputable def HSi : Vst 112 := stS 112 [(2, .bx 2 0), (4, .bx 4 0), (5, .bx 5 0), (6, .bx 6 0), (39, .sl 88 []), (40, .c (.int .i64 0)), (41, .c (.int .i64 0))] [(2, .box 41 [.sl 57 [op5], .sl 116 []]), (4, .box 41 [.c (.slice none 0 0), .c (.slice none 0 0)]), (5, .box 57 (cellsV Tryz.prog 12 57 op5)), (6, .box 57 (cellsV Tryz.prog 12 57 op0))]
noncomputable def HSj : Vst 112 := stS 112 [(4, .bx 4 0), (10, .bx 10 0), (80, .c (.slice none 0 0)), (81, .c (.int .i64 0)), (82, .c (.int .i64 0))] [(4, .box 41 [.c (.slice none 0 0), .c (.slice none 0 0)]), (10, .box 41 [.sl 57 [op0], .sl 116 []])]
noncomputable def HSc : Vst 112 := stS 112 [(2, .bx 2 0), (4, .bx 4 0), (5, .bx 5 0)] [(2, .box 41 [.sl 57 [op5], .sl 116 []]), (4, .box 41 [.c (.slice none 0 0), .c (.slice none 0 0)]), (5, .box 57 (cellsV Tryz.prog 12 57 op5))]
set_option maxHeartbeats 8000000 in
set_option maxRecDepth 100000 in
theorem sign_ac : AC EN Tryz.prog 54 [.agg [.sl 57 [op5], .sl 116 []], .c (.int .i64 0)] (.agg [.sl 57 [op0], .sl 116 []]) := by
  have h1 := blankSels1_ac
  have h2 := reach1_ac
  have h3 := sortStr_ac
  refine ac_enter 112 Tryz.func54 rfl rfl rfl rfl ?_
  intro s w he
  repeat' (first
 | (apply aw_drawA ([(1,[5]),(3,[5]),(5,[5])]) ([(8,[6]),(9,[6])]) ([(8,6)]) rfl (by kernel_rfl) (by kernel_rfl) (by kernel_rfl) (by intro p hp; simp only [List.mem_cons, List.not_mem_nil, or_false] at hp; rcases hp with rfl <;> (repeat' (first | exact fresh_S rfl | refine fresh_put ?_ rfl | refine fresh_res ?_ rfl rfl))))
 | apply h_nil
 | (apply h_valW ((WO op0)) rfl rfl
    · conv => lhs; whnf; arg 2; whnf
    · repeat' (first | exact VLe.refl _ | exact VLe.nil _ | exact VLe.lit _ _ | exact VLe.own _ _ _ | apply VLe.agg | apply VLeL.cons | exact VLeL.nil)
    · kernel_rfl)
 | (apply h_alloc rfl rfl rfl rfl
    · conv => lhs; whnf; arg 1; whnf
    · rfl
    · rfl
    · kernel_rfl)
 | (apply h_val rfl
    · conv => lhs; whnf
    · conv => lhs; whnf; arg 2; whnf
    · kernel_rfl)
 | (apply h_store rfl rfl rfl
    · conv => lhs; whnf
    · rfl
    · conv => lhs; whnf; arg 1; whnf
    · conv => lhs; whnf; arg 1; whnf
    · exact ⟨by kernel_rfl, by kernel_rfl⟩
    · rfl
    · kernel_rfl)
 | (apply h_call rfl
    · conv => lhs; whnf
    · conv => lhs; whnf
    · first | exact h1
    · kernel_rfl)
 | (show inO _ _ = true; rfl)
 | apply aw_cutAt 4 (HSc) rfl
 | refine k_cut ?_
 | refine aw_region ?_
 | refine awo_nil ?_
 | refine k_seq ?_
 | (apply aw_1
    conv => whnf
    refine ⟨?_, trivial⟩)
 | (apply s_1
    conv => whnf; arg 1; arg 4; arg 3; whnf
    refine ⟨?_, ?_⟩)
 | (apply s_box rfl rfl rfl rfl
    · conv => lhs; whnf; arg 1; whnf
    · rfl)
 | (apply s_store rfl rfl rfl
    · conv => lhs; whnf
    · conv => lhs; whnf; arg 1; whnf
    · conv => lhs; whnf; arg 1; whnf
    · exact ⟨by kernel_rfl, by kernel_rfl⟩
    · rfl)
 | exact trivial)
  all_goals first
    | exact Sub.live ⟨rfl, rfl, rfl, trivial⟩ ⟨rfl, rfl, rfl, trivial⟩
    | decide
    | skip
  refine aw_loop (fun _ st => Sub (cx EN Tryz.prog s w he) st HSi) 0 (Sub.live ⟨rfl, rfl, rfl, rfl, rfl, rfl, rfl, trivial⟩ ⟨rfl, rfl, rfl, rfl, trivial⟩) ?_
  rintro j st hs
  refine aw_sub hs ?_
  clear hs
  repeat' (first
 | (apply s_lit [op0] rfl rfl
    · conv => lhs; whnf
    · first | exact elemO9 | (conv => lhs; whnf; arg 1; whnf)
    · rfl
    · rfl
    · repeat' (first | exact trivial | apply And.intro | rfl))
 | (apply s_valW (WQ [op0]) rfl rfl
    · conv => lhs; whnf; arg 2; whnf
    · repeat' (first | exact VLe.refl _ | exact VLe.nil _ | exact VLe.lit _ _ | exact VLe.own _ _ _ | apply VLe.agg | apply VLeL.cons | exact VLeL.nil))
 | refine aw_region ?_
 | refine awo_nil ?_
 | refine k_seq ?_
 | (apply aw_1
    conv => whnf
    refine ⟨?_, trivial⟩)
 | (apply s_1
    conv => whnf; arg 1; arg 4; arg 3; whnf
    refine ⟨?_, ?_⟩)
 | (apply s_call rfl
    · conv => lhs; whnf
    · conv => lhs; whnf
    · first | exact sortVar_ac [] (by decide) _ | exact h2 | exact h3)
 | (apply s_store rfl rfl rfl
    · conv => lhs; whnf
    · conv => lhs; whnf; arg 1; whnf
    · conv => lhs; whnf; arg 1; whnf
    · exact ⟨by kernel_rfl, by kernel_rfl⟩
    · rfl)
 | refine k_seq_exit ?_
 | refine k_block_hit rfl ?_
 | refine k_loop_exit ?_
 | exact trivial)
  all_goals first
    | decide
    | skip
  refine aw_loop (fun _ st => Sub (cx EN Tryz.prog s w he) st HSj) 0 (Sub.live ⟨rfl, rfl, rfl, rfl, rfl, trivial⟩ ⟨rfl, rfl, trivial⟩) ?_
  rintro j2 st2 hs
  refine aw_sub hs ?_
  clear hs
  repeat' (first
 | refine aw_region ?_
 | refine awo_nil ?_
 | refine k_seq ?_
 | (apply aw_1
    conv => whnf
    refine ⟨?_, trivial⟩)
 | (apply s_1
    conv => whnf; arg 1; arg 4; arg 3; whnf
    refine ⟨?_, ?_⟩)
 | (apply s_store rfl rfl rfl
    · conv => lhs; whnf
    · conv => lhs; whnf; arg 1; whnf
    · conv => lhs; whnf; arg 1; whnf
    · exact ⟨by kernel_rfl, by kernel_rfl⟩
    · rfl)
 | refine k_seq_exit ?_
 | refine k_block_hit rfl ?_
 | refine k_loop_exit ?_
 | refine k_end_ret ?_
 | (refine ⟨_, by conv => lhs; whnf; arg 2; whnf, ?_⟩; conv => rhs; whnf)
 | exact trivial)
  all_goals first
    | rfl
    | decide
end Go.Proofs.YthjiclhfhjdjpaaGreatDoor
namespace Go.Proofs.YthjiclhfhjdjpaaGreatDoor
open Go.RowKit
set_option linter.unusedSectionVars false
attribute [local irreducible] wpList Calls Code.wp AW AWo OpOk seqK blockK scopeK loopK endK AC absLex Yld Sub
attribute [local irreducible] ACB ACX absLexG YldG absLexH
set_option maxHeartbeats 8000000 in
set_option maxRecDepth 100000 in
theorem cmpStr1E (a b : ByteArray) : AC EN Tryz.prog 335 [.c (.string a), .c (.string b)] (.c (.int .i64 (Lib.compareBytes (tx a) (tx b)))) :=
  ac_of fun s w us hus _ => by
    obtain ⟨u, u2, rfl, h1, h2⟩ := rel_two hus
    rw [rel] at h1 h2
    obtain ⟨rfl, -⟩ := h1
    obtain ⟨rfl, -⟩ := h2
    exact ⟨i64_small (cmpB_range _ _), (cmpStrC a b w).mono fun e w' h => ⟨h.1, by rw [h.2]; exact Below.refl _ _⟩⟩
set_option maxRecDepth 100000 in
set_option maxHeartbeats 8000000 in
theorem cmpStr_acE (a b : ByteArray) : AC EN Tryz.prog 294 [.c (.string a), .c (.string b)] (.c (.int .i64 (Lib.compareBytes (tx a) (tx b)))) := by
  have h1 := cmpStr1E a b
  refine ac_enter 8 Tryz.func294 rfl rfl rfl rfl ?_
  intro s w he
  repeat' (first
 | refine aw_region ?_
 | refine awo_nil ?_
 | refine k_seq ?_
 | (apply aw_1
    conv => whnf
    refine ⟨?_, trivial⟩)
 | (apply s_1
    conv => whnf; arg 1; arg 4; arg 3; whnf
    refine ⟨?_, ?_⟩)
 | (apply s_call rfl
    · conv => lhs; whnf
    · conv => lhs; whnf
    · first | exact h1)
 | refine k_end_ret ?_
 | (refine ⟨_, by conv => lhs; whnf; arg 2; whnf, ?_⟩; conv => rhs; whnf)
 | exact trivial)
set_option maxRecDepth 100000 in
set_option maxHeartbeats 8000000 in
theorem nan_acE (a : Int) : AC EN Tryz.prog 262 [.c (.int .i64 a)] (.c (.bool false)) := by
  refine ac_enter 6 Tryz.func262 rfl rfl rfl rfl ?_
  intro s w he
  repeat' (first
 | refine aw_region ?_
 | refine awo_nil ?_
 | refine k_seq ?_
 | (apply aw_1
    conv => whnf
    refine ⟨?_, trivial⟩)
 | (apply s_1
    conv => whnf; arg 1; arg 4; arg 3; whnf
    refine ⟨?_, ?_⟩)
 | refine k_end_ret ?_
 | (refine ⟨_, by conv => lhs; whnf; arg 2; whnf, ?_⟩; conv => rhs; whnf)
 | exact trivial)
  simp
set_option maxRecDepth 100000 in
set_option maxHeartbeats 8000000 in
theorem cmpInt_acE (a b : Int) : AC EN Tryz.prog 189 [.c (.int .i64 a), .c (.int .i64 b)] (.c (.int .i64 (ordI a b))) := by
  have h1 := nan_acE a
  have h2 := nan_acE b
  refine ac_enter 20 Tryz.func189 rfl rfl rfl rfl ?_
  intro s w he
  repeat' (first
 | refine aw_region ?_
 | refine awo_nil ?_
 | refine k_seq ?_
 | (apply aw_1
    conv => whnf
    refine ⟨?_, trivial⟩)
 | (apply s_1
    conv => whnf; arg 1; arg 4; arg 3; whnf
    refine ⟨?_, ?_⟩)
 | (apply s_call rfl
    · conv => lhs; whnf
    · conv => lhs; whnf
    · first | exact h1 | exact h2)
 | (refine aw_cond (by conv => lhs; whnf) ?_ ?_ <;> intro hb)
 | refine k_seq_ret ?_
 | refine k_end_ret ?_
 | (refine ⟨_, by conv => lhs; whnf; arg 2; whnf, ?_⟩; conv => rhs; whnf)
 | exact trivial)
  all_goals (simp only [decide_eq_true_eq, decide_eq_false_iff_not] at *; unfold ordI)
  · rw [if_pos (by omega)]
  · rw [if_neg (by omega), if_pos (by omega)]
  · rw [if_neg (by omega), if_neg (by omega)]
set_option maxRecDepth 100000 in
set_option maxHeartbeats 8000000 in
theorem key_acE (x : D) (i : Nat) : AC EN Tryz.prog 295 [.agg (cellsV Tryz.prog 12 84 x), .c (.int .i64 i)] (.c (.string (keyD x i))) := by
  refine ac_enter 15 Tryz.func295 rfl rfl rfl rfl ?_
  intro s w he
  repeat' (first
 | refine aw_region ?_
 | refine awo_nil ?_
 | refine k_seq ?_
 | (apply aw_1
    conv => whnf
    refine ⟨?_, trivial⟩)
 | (apply s_1
    conv => whnf; arg 1; arg 4; arg 3; whnf
    refine ⟨?_, ?_⟩)
 | (apply s_box rfl rfl rfl rfl
    · conv => lhs; whnf; arg 1; whnf
    · rfl)
 | (refine aw_cond (by conv => lhs; whnf) ?_ ?_ <;> intro hb)
 | refine k_seq_ret ?_
 | refine k_end_ret ?_
 | (refine ⟨_, by conv => lhs; whnf; arg 2; whnf, ?_⟩; conv => rhs; whnf)
 | exact trivial)
  · have hb : decide ((i : Int) < (x.f 4).l.length) = true := hb
    unfold keyD
    rw [if_pos (by simpa using hb)]
    rfl
  · have hb : decide ((i : Int) < (x.f 4).l.length) = true := hb
    show 0 ≤ (i : Int) ∧ (i : Int) < (x.f 4).l.length
    simp at hb; omega
  · have hb : decide ((i : Int) < (x.f 4).l.length) = false := hb
    unfold keyD
    rw [if_neg (by simpa using hb)]
set_option maxHeartbeats 8000000 in
set_option maxRecDepth 100000 in
theorem cmpP_acE : ∀ (k : Nat) (a b : D), Dp k a → Dp k b → bulkD a ≤ 1000000000 → bulkD b ≤ 1000000000 → AC EN Tryz.prog 229 [.agg (cellsV Tryz.prog 12 84 a), .agg (cellsV Tryz.prog 12 84 b)] (.c (.int .i64 (cmpV k a b)))
  | 0, a, b, h, _, _, _ => h.elim
  | k + 1, a, b, h1, h2, hb1, hb2 => by
    have i1 := bk_in hb1
    have i2 := bk_in hb2
    have l1 := i1.items
    have l2 := i2.items
    have ih := fun i (hi : i < (a.f 3).l.length) (hj : i < (b.f 3).l.length) => cmpP_acE k _ _ (h1 i hi) (h2 i hj) (by have := i1.at_ i hi; omega) (by have := i2.at_ i hj; omega)
    have c1 := fun i => key_acE a i
    have c2 := fun i => key_acE b i
    have c3 := fun x y => cmpStr_acE x y
    have c4 := fun x y => cmpInt_acE x y
    refine ac_enter 84 Tryz.func229 rfl rfl rfl rfl ?_
    intro s w he
    repeat' (first
 | refine aw_region ?_
 | refine awo_nil ?_
 | refine k_seq ?_
 | (apply aw_1
    conv => whnf
    refine ⟨?_, trivial⟩)
 | (apply s_1
    conv => whnf; arg 1; arg 4; arg 3; whnf
    refine ⟨?_, ?_⟩)
 | (apply s_box rfl rfl rfl rfl
    · conv => lhs; whnf; arg 1; whnf
    · rfl)
 | exact trivial)
    refine aw_loop (fun j st => (j = 1 ∧ Sub (cx EN Tryz.prog s w he) st (HV0 a b)) ∨ (j = 0 ∧ Sub (cx EN Tryz.prog s w he) st (HV1 (cmpV (k + 1) a b)))) 1 (.inl ⟨rfl, ?_⟩) ?_
    · exact Sub.live ⟨rfl, rfl, rfl, trivial⟩ ⟨rfl, rfl, trivial⟩
    · rintro j st (⟨rfl, hs2⟩ | ⟨rfl, hs2⟩)
      · refine aw_sub hs2 ?_
        have hC : cmpV (k + 1) a b = if (a.f 0).n != (b.f 0).n then ordI (a.f 0).n (b.f 0).n
          else if (a.f 1).n != (b.f 1).n then ordI (a.f 1).n (b.f 1).n
          else if !((a.f 2).s.toList == (b.f 2).s.toList) then Lib.compareBytes (tx (a.f 2).s) (tx (b.f 2).s)
          else cmpIt (cmpV k) a b (min (a.f 3).l.length (b.f 3).l.length) 0 := rfl
        generalize cmpV (k + 1) a b = R at hC ⊢
        repeat' (first
 | refine aw_region ?_
 | refine awo_nil ?_
 | refine k_seq ?_
 | refine k_block ?_
 | (apply aw_1
    conv => whnf
    refine ⟨?_, trivial⟩)
 | (apply s_1
    conv => whnf; arg 1; arg 4; arg 3; whnf
    refine ⟨?_, ?_⟩)
 | (apply s_call rfl
    · conv => lhs; whnf
    · conv => lhs; whnf
    · first | exact c1 _ | exact c2 _ | exact c3 _ _ | exact c4 _ _)
 | (refine aw_cond (by conv => lhs; whnf) ?_ ?_ <;> intro hb)
 | refine k_seq_exit ?_
 | refine k_block_hit rfl ?_
 | refine k_block_miss rfl ?_
 | refine k_scope_ret ?_
 | refine k_loop_exit ?_
 | refine k_end_ret ?_
 | (refine ⟨_, by conv => lhs; whnf; arg 2; whnf, ?_⟩; conv => rhs; whnf)
 | exact trivial)
        · have e1 : ((a.f 0).n != (b.f 0).n) = true := by assumption
          rw [hC, if_pos e1]
        · have e1 : ((a.f 0).n != (b.f 0).n) = false := by assumption
          have e2 : ((a.f 1).n != (b.f 1).n) = true := by assumption
          rw [hC, if_neg (by rw [e1]; decide), if_pos e2]
        · have e1 : ((a.f 0).n != (b.f 0).n) = false := by assumption
          have e2 : ((a.f 1).n != (b.f 1).n) = false := by assumption
          have e3 : (!((a.f 2).s.toList == (b.f 2).s.toList)) = true := by assumption
          rw [hC, if_neg (by rw [e1]; decide), if_neg (by rw [e2]; decide), if_pos e3]
        · have e1 : ((a.f 0).n != (b.f 0).n) = false := by assumption
          have e2 : ((a.f 1).n != (b.f 1).n) = false := by assumption
          have e3 : (!((a.f 2).s.toList == (b.f 2).s.toList)) = false := by assumption
          rw [if_neg (by rw [e1]; decide), if_neg (by rw [e2]; decide), if_neg (by rw [e3]; decide)] at hC
          refine aw_loop (fun j st => ∃ i, i + j = min (a.f 3).l.length (b.f 3).l.length ∧ R = cmpIt (cmpV k) a b j i ∧ Sub (cx EN Tryz.prog s w he) st (HVI a b i)) (min (a.f 3).l.length (b.f 3).l.length) ⟨0, by omega, hC, ?_⟩ ?_
          · refine Sub.live ⟨rfl, rfl, rfl, ?_, rfl, trivial⟩ ⟨rfl, rfl, trivial⟩
            show V.c (.int .i64 (if ((b.f 3).l.length : Int) < (a.f 3).l.length then ((b.f 3).l.length : Int) else ((a.f 3).l.length : Int))) = _
            rw [min_int]
          · clear e1 e2 e3
            rintro j st ⟨i, hij, hR, hs2⟩
            refine aw_sub hs2 ?_
            have ih2 := fun (h : decide ((i : Int) < ((min (a.f 3).l.length (b.f 3).l.length : Nat) : Int)) = true) => ih i (by simp at h; omega) (by simp at h; omega)
            repeat' (first
 | refine aw_region ?_
 | refine awo_nil ?_
 | refine k_seq ?_
 | refine k_block ?_
 | (apply aw_1
    conv => whnf
    refine ⟨?_, trivial⟩)
 | (apply s_1
    conv => whnf; arg 1; arg 4; arg 3; whnf
    refine ⟨?_, ?_⟩)
 | (apply s_call rfl
    · conv => lhs; whnf
    · conv => lhs; whnf
    · first | exact c1 i | exact c2 i | exact c3 _ _ | exact ih2 (by assumption) | exact c4 _ _)
 | (apply aw_draw (by kernel_rfl) (by kernel_rfl))
 | apply y_nil
 | (apply y_val rfl
    · conv => lhs; whnf
    · conv => lhs; whnf; arg 2; whnf)
 | (apply y_call rfl
    · conv => lhs; whnf
    · conv => lhs; whnf
    · first | exact c1 i | exact c2 i | exact c3 _ _ | exact ih2 (by assumption) | exact c4 _ _)
 | exact apartB_none
 | exact apartB_nil
 | exact (1000000 : Nat)
 | (refine aw_cond (by conv => lhs; whnf) ?_ ?_ <;> intro hb)
 | refine k_seq_exit ?_
 | refine k_block_hit rfl ?_
 | refine k_block_miss rfl ?_
 | refine k_scope_ret ?_
 | refine k_loop_exit ?_
 | refine k_end_ret ?_
 | (refine ⟨_, by conv => lhs; whnf; arg 2; whnf, ?_⟩; conv => rhs; whnf)
 | exact trivial)
            · have h0 : decide ((i : Int) < ((min (a.f 3).l.length (b.f 3).l.length : Nat) : Int)) = true := by assumption
              have h1 : (Lib.compareBytes (tx (keyD a i)) (tx (keyD b i)) != 0) = true := by assumption
              obtain ⟨j, rfl⟩ : ∃ q, j = q + 1 := ⟨j - 1, by simp at h0; omega⟩
              rw [hR, cmpIt, if_pos h1]
            · have h0 : decide ((i : Int) < ((min (a.f 3).l.length (b.f 3).l.length : Nat) : Int)) = true := by assumption
              have h1 : (Lib.compareBytes (tx (keyD a i)) (tx (keyD b i)) != 0) = false := by assumption
              have h2 : (cmpV k (gD (a.f 3).l i) (gD (b.f 3).l i) != 0) = true := by assumption
              obtain ⟨j, rfl⟩ : ∃ q, j = q + 1 := ⟨j - 1, by simp at h0; omega⟩
              rw [hR, cmpIt, if_neg (by rw [h1]; decide), if_pos h2]
            · have h0 : decide ((i : Int) < ((min (a.f 3).l.length (b.f 3).l.length : Nat) : Int)) = true := by assumption
              have h1 : (Lib.compareBytes (tx (keyD a i)) (tx (keyD b i)) != 0) = false := by assumption
              have h2 : (cmpV k (gD (a.f 3).l i) (gD (b.f 3).l i) != 0) = false := by assumption
              obtain ⟨j, rfl⟩ : ∃ q, j = q + 1 := ⟨j - 1, by simp at h0; omega⟩
              rw [cmpIt, if_neg (by rw [h1]; decide), if_neg (by rw [h2]; decide)] at hR
              exact k_loop_next (j' := j) (by omega) ⟨i + 1, by omega, hR, Sub.live ⟨rfl, rfl, rfl, rfl, rfl, trivial⟩ ⟨rfl, rfl, trivial⟩⟩
            · exact i64_ok (by omega)
            · have h0 : decide ((i : Int) < ((min (a.f 3).l.length (b.f 3).l.length : Nat) : Int)) = true := by assumption
              show 0 ≤ (i : Int) ∧ (i : Int) < (b.f 3).l.length
              simp at h0; omega
            · have h0 : decide ((i : Int) < ((min (a.f 3).l.length (b.f 3).l.length : Nat) : Int)) = true := by assumption
              show 0 ≤ (i : Int) ∧ (i : Int) < (a.f 3).l.length
              simp at h0; omega
            · have h0 : decide ((i : Int) < ((min (a.f 3).l.length (b.f 3).l.length : Nat) : Int)) = false := by assumption
              obtain rfl : j = 0 := by simp at h0; omega
              refine k_loop_next (j' := 0) (by omega) (.inr ⟨rfl, Sub.live ⟨?_, rfl, trivial⟩ trivial⟩)
              rw [hR]; rfl
            · exact i64_ok (by omega)
      · refine aw_sub hs2 ?_
        repeat' (first
 | refine aw_region ?_
 | refine awo_nil ?_
 | refine k_seq ?_
 | (apply aw_1
    conv => whnf
    refine ⟨?_, trivial⟩)
 | (apply s_1
    conv => whnf; arg 1; arg 4; arg 3; whnf
    refine ⟨?_, ?_⟩)
 | refine k_seq_exit ?_
 | refine k_block_hit rfl ?_
 | refine k_scope_ret ?_
 | refine k_loop_exit ?_
 | refine k_end_ret ?_
 | (refine ⟨_, by conv => lhs; whnf; arg 2; whnf, ?_⟩; conv => rhs; whnf)
 | exact trivial)
set_option maxHeartbeats 8000000 in
set_option maxRecDepth 100000 in
theorem same_valE (k : Nat) (a b : D) (h1 : Dp k a) (h2 : Dp k b) (hb1 : bulkD a ≤ 1000000000) (hb2 : bulkD b ≤ 1000000000) : AC EN Tryz.prog 154 [.agg (cellsV Tryz.prog 12 84 a), .agg (cellsV Tryz.prog 12 84 b)] (.c (.bool (cmpV k a b == 0))) := by
  have hc := cmpP_acE k a b h1 h2 hb1 hb2
  refine ac_enter 9 Tryz.func154 rfl rfl rfl rfl ?_
  intro s w he
  repeat' (first
 | refine aw_region ?_
 | refine awo_nil ?_
 | refine k_seq ?_
 | (apply aw_1
    conv => whnf
    refine ⟨?_, trivial⟩)
 | (apply s_1
    conv => whnf; arg 1; arg 4; arg 3; whnf
    refine ⟨?_, ?_⟩)
 | (apply s_call rfl
    · conv => lhs; whnf
    · conv => lhs; whnf
    · first | exact hc)
 | (apply s_box rfl rfl rfl rfl
    · conv => lhs; whnf; arg 1; whnf
    · rfl)
 | refine k_end_ret ?_
 | (refine ⟨_, by conv => lhs; whnf; arg 2; whnf, ?_⟩; conv => rhs; whnf)
 | exact trivial)
def eqL (f : D → D → Bool) (l m : List D) : Bool := (l.length == m.length) && (List.range l.length).all fun i => f (gD l i) (gD m i)
set_option maxHeartbeats 8000000 in
set_option maxRecDepth 100000 in
theorem eqL_ne {f : D → D → Bool} {l m : List D} (h : ((l.length : Int) != (m.length : Int)) = true) : eqL f l m = false := by
  have : ¬ l.length = m.length := by simp at h; omega
  simp [eqL, this]
set_option maxHeartbeats 8000000 in
set_option maxRecDepth 100000 in
theorem eqL_len {l m : List D} (h : ((l.length : Int) != (m.length : Int)) = false) : l.length = m.length := by simp at h; omega
set_option maxHeartbeats 8000000 in
set_option maxRecDepth 100000 in
theorem eqL_bad {f : D → D → Bool} {l m : List D} {i : Nat} (hi : i < l.length) (h : f (gD l i) (gD m i) = false) : eqL f l m = false := by
  unfold eqL
  rw [Bool.and_eq_false_iff]
  right
  rw [List.all_eq_false]
  exact ⟨i, List.mem_range.2 hi, by simp [h]⟩
set_option maxHeartbeats 8000000 in
set_option maxRecDepth 100000 in
theorem eqL_all {f : D → D → Bool} {l m : List D} (hl : l.length = m.length) (h : ∀ i, i < l.length → f (gD l i) (gD m i) = true) : eqL f l m = true := by
  unfold eqL
  rw [Bool.and_eq_true, List.all_eq_true]
  exact ⟨by simp [hl], fun i hi => h i (List.mem_range.1 hi)⟩
set_option maxHeartbeats 8000000 in
set_option maxRecDepth 100000 in
theorem eqL_true {f : D → D → Bool} {l m : List D} : eqL f l m = true ↔ l.length = m.length ∧ ∀ i, i < l.length → f (gD l i) (gD m i) = true := by
  unfold eqL
  rw [Bool.and_eq_true, List.all_eq_true]
  constructor
  · rintro ⟨h1, h2⟩
    exact ⟨by simpa using h1, fun i hi => h2 i (List.mem_range.2 hi)⟩
  · rintro ⟨h1, h2⟩
    exact ⟨by simpa using h1, fun i hi => h2 i (List.mem_range.1 hi)⟩
def intEq (a b : D) : Bool := a.n == b.n
noncomputable def HEqArg (l m : List D) (i : Nat) : Vst 32 :=
  stS 32 [(1, .sl 86 m), (2, .c (.func (.func 208) #[] #[])), (15, .sl 86 l), (16, .c (.int .i64 l.length)), (17, .c (.int .i64 i))] []
set_option maxRecDepth 100000 in
set_option maxHeartbeats 8000000 in
theorem eqFArg_ac (l m : List D) (f : D → D → Bool) (hn : l.length ≤ 100000000) (hg : ∀ i, i < l.length → i < m.length → AC EN Tryz.prog 208 [.agg (cellsV Tryz.prog 12 86 (gD l i)), .agg (cellsV Tryz.prog 12 86 (gD m i))] (.c (.bool (f (gD l i) (gD m i))))) :
    AC EN Tryz.prog 207 [.sl 86 l, .sl 86 m, .c (.func (.func 208) #[] #[])] (.c (.bool (eqL f l m))) := by
  refine ac_enter 32 Tryz.func207 rfl rfl rfl rfl ?_
  intro s w he
  repeat' (first
 | refine aw_region ?_
 | refine awo_nil ?_
 | refine k_seq ?_
 | (apply aw_1
    conv => whnf
    refine ⟨?_, trivial⟩)
 | (apply s_1
    conv => whnf; arg 1; arg 4; arg 3; whnf
    refine ⟨?_, ?_⟩)
 | (refine aw_cond (by conv => lhs; whnf) ?_ ?_ <;> intro hb)
 | refine k_seq_ret ?_
 | refine k_end_ret ?_
 | (refine ⟨_, by conv => lhs; whnf; arg 2; whnf, ?_⟩; conv => rhs; whnf)
 | exact trivial)
  · rw [eqL_ne (by assumption)]
  · have hlen : l.length = m.length := eqL_len (by assumption)
    refine aw_loop (fun j st => ∃ i, i + j = l.length ∧ (∀ q, q < i → f (gD l q) (gD m q) = true) ∧ Sub (cx EN Tryz.prog s w he) st (HEqArg l m i)) l.length ⟨0, by omega, fun q hq => by omega, ?_⟩ ?_
    · exact Sub.live ⟨rfl, rfl, rfl, rfl, rfl, trivial⟩ trivial
    · rintro j st ⟨i, hij, hall, hs2⟩
      refine aw_sub hs2 ?_
      have hg2 := fun (h : decide ((i : Int) < (l.length : Int)) = true) => hg i (by simpa using h) (by rw [← hlen]; simpa using h)
      repeat' (first
 | refine aw_region ?_
 | refine awo_nil ?_
 | refine k_seq ?_
 | refine k_block ?_
 | (apply aw_1
    conv => whnf
    refine ⟨?_, trivial⟩)
 | (apply s_1
    conv => whnf; arg 1; arg 4; arg 3; whnf
    refine ⟨?_, ?_⟩)
 | (apply s_call rfl
    · conv => lhs; whnf
    · conv => lhs; whnf
    · first | exact hg2 (by assumption))
 | (apply s_store rfl rfl rfl
    · conv => lhs; whnf
    · conv => lhs; whnf; arg 1; whnf
    · conv => lhs; whnf; arg 1; whnf
    · exact ⟨by kernel_rfl, by kernel_rfl⟩
    · rfl)
 | (refine aw_cond (by conv => lhs; whnf) ?_ ?_ <;> intro hb)
 | refine k_seq_exit ?_
 | refine k_seq_ret ?_
 | refine k_block_ret ?_
 | refine k_block_hit rfl ?_
 | refine k_loop_exit ?_
 | refine k_loop_ret ?_
 | refine k_end_ret ?_
 | (refine ⟨_, by conv => lhs; whnf; arg 2; whnf, ?_⟩; conv => rhs; whnf)
 | exact trivial)
      · have hlt : i < l.length := by have h : decide ((i : Int) < (l.length : Int)) = true := by assumption
                                      simpa using h
        have hf : (!f (gD l i) (gD m i)) = true := by assumption
        rw [eqL_bad hlt (by simpa using hf)]
      · have hf : (!f (gD l i) (gD m i)) = false := by assumption
        have hlt : i < l.length := by have h : decide ((i : Int) < (l.length : Int)) = true := by assumption
                                      simpa using h
        refine k_loop_next (j' := j - 1) (by omega) ⟨i + 1, by omega, fun q hq => ?_, Sub.live ⟨rfl, rfl, rfl, rfl, rfl, trivial⟩ trivial⟩
        by_cases e : q = i
        · subst e; simpa using hf
        · exact hall q (by omega)
      · exact i64_ok (by omega)
      · have h : decide ((i : Int) < (l.length : Int)) = true := by assumption
        simp at h; omega
      · have h : decide ((i : Int) < (l.length : Int)) = true := by assumption
        simp at h; omega
      · have h : decide ((i : Int) < (l.length : Int)) = false := by assumption
        simp at h
        rw [eqL_all hlen fun q hq => hall q (by omega)]
noncomputable def HEqDir (l m : List D) (i : Nat) : Vst 32 :=
  stS 32 [(1, .sl 150 m), (2, .c (.func (.func 210) #[] #[])), (15, .sl 150 l), (16, .c (.int .i64 l.length)), (17, .c (.int .i64 i))] []
set_option maxRecDepth 100000 in
set_option maxHeartbeats 8000000 in
theorem eqFDir_ac (l m : List D) (f : D → D → Bool) (hn : l.length ≤ 100000000) (hg : ∀ i, i < l.length → i < m.length → AC EN Tryz.prog 210 [.agg (cellsV Tryz.prog 12 150 (gD l i)), .agg (cellsV Tryz.prog 12 150 (gD m i))] (.c (.bool (f (gD l i) (gD m i))))) :
    AC EN Tryz.prog 209 [.sl 150 l, .sl 150 m, .c (.func (.func 210) #[] #[])] (.c (.bool (eqL f l m))) := by
  refine ac_enter 32 Tryz.func209 rfl rfl rfl rfl ?_
  intro s w he
  repeat' (first
 | refine aw_region ?_
 | refine awo_nil ?_
 | refine k_seq ?_
 | (apply aw_1
    conv => whnf
    refine ⟨?_, trivial⟩)
 | (apply s_1
    conv => whnf; arg 1; arg 4; arg 3; whnf
    refine ⟨?_, ?_⟩)
 | (refine aw_cond (by conv => lhs; whnf) ?_ ?_ <;> intro hb)
 | refine k_seq_ret ?_
 | refine k_end_ret ?_
 | (refine ⟨_, by conv => lhs; whnf; arg 2; whnf, ?_⟩; conv => rhs; whnf)
 | exact trivial)
  · rw [eqL_ne (by assumption)]
  · have hlen : l.length = m.length := eqL_len (by assumption)
    refine aw_loop (fun j st => ∃ i, i + j = l.length ∧ (∀ q, q < i → f (gD l q) (gD m q) = true) ∧ Sub (cx EN Tryz.prog s w he) st (HEqDir l m i)) l.length ⟨0, by omega, fun q hq => by omega, ?_⟩ ?_
    · exact Sub.live ⟨rfl, rfl, rfl, rfl, rfl, trivial⟩ trivial
    · rintro j st ⟨i, hij, hall, hs2⟩
      refine aw_sub hs2 ?_
      have hg2 := fun (h : decide ((i : Int) < (l.length : Int)) = true) => hg i (by simpa using h) (by rw [← hlen]; simpa using h)
      repeat' (first
 | refine aw_region ?_
 | refine awo_nil ?_
 | refine k_seq ?_
 | refine k_block ?_
 | (apply aw_1
    conv => whnf
    refine ⟨?_, trivial⟩)
 | (apply s_1
    conv => whnf; arg 1; arg 4; arg 3; whnf
    refine ⟨?_, ?_⟩)
 | (apply s_call rfl
    · conv => lhs; whnf
    · conv => lhs; whnf
    · first | exact hg2 (by assumption))
 | (apply s_store rfl rfl rfl
    · conv => lhs; whnf
    · conv => lhs; whnf; arg 1; whnf
    · conv => lhs; whnf; arg 1; whnf
    · exact ⟨by kernel_rfl, by kernel_rfl⟩
    · rfl)
 | (refine aw_cond (by conv => lhs; whnf) ?_ ?_ <;> intro hb)
 | refine k_seq_exit ?_
 | refine k_seq_ret ?_
 | refine k_block_ret ?_
 | refine k_block_hit rfl ?_
 | refine k_loop_exit ?_
 | refine k_loop_ret ?_
 | refine k_end_ret ?_
 | (refine ⟨_, by conv => lhs; whnf; arg 2; whnf, ?_⟩; conv => rhs; whnf)
 | exact trivial)
      · have hlt : i < l.length := by have h : decide ((i : Int) < (l.length : Int)) = true := by assumption
                                      simpa using h
        have hf : (!f (gD l i) (gD m i)) = true := by assumption
        rw [eqL_bad hlt (by simpa using hf)]
      · have hf : (!f (gD l i) (gD m i)) = false := by assumption
        have hlt : i < l.length := by have h : decide ((i : Int) < (l.length : Int)) = true := by assumption
                                      simpa using h
        refine k_loop_next (j' := j - 1) (by omega) ⟨i + 1, by omega, fun q hq => ?_, Sub.live ⟨rfl, rfl, rfl, rfl, rfl, trivial⟩ trivial⟩
        by_cases e : q = i
        · subst e; simpa using hf
        · exact hall q (by omega)
      · exact i64_ok (by omega)
      · have h : decide ((i : Int) < (l.length : Int)) = true := by assumption
        simp at h; omega
      · have h : decide ((i : Int) < (l.length : Int)) = true := by assumption
        simp at h; omega
      · have h : decide ((i : Int) < (l.length : Int)) = false := by assumption
        simp at h
        rw [eqL_all hlen fun q hq => hall q (by omega)]
noncomputable def HEqVar (l m : List D) (i : Nat) : Vst 32 :=
  stS 32 [(1, .sl 88 m), (2, .c (.func (.func 128) #[] #[])), (15, .sl 88 l), (16, .c (.int .i64 l.length)), (17, .c (.int .i64 i))] []
set_option maxRecDepth 100000 in
set_option maxHeartbeats 8000000 in
theorem eqFVar_ac (l m : List D) (f : D → D → Bool) (hn : l.length ≤ 100000000) (hg : ∀ i, i < l.length → i < m.length → AC EN Tryz.prog 128 [.agg (cellsV Tryz.prog 12 88 (gD l i)), .agg (cellsV Tryz.prog 12 88 (gD m i))] (.c (.bool (f (gD l i) (gD m i))))) :
    AC EN Tryz.prog 127 [.sl 88 l, .sl 88 m, .c (.func (.func 128) #[] #[])] (.c (.bool (eqL f l m))) := by
  refine ac_enter 32 Tryz.func127 rfl rfl rfl rfl ?_
  intro s w he
  repeat' (first
 | refine aw_region ?_
 | refine awo_nil ?_
 | refine k_seq ?_
 | (apply aw_1
    conv => whnf
    refine ⟨?_, trivial⟩)
 | (apply s_1
    conv => whnf; arg 1; arg 4; arg 3; whnf
    refine ⟨?_, ?_⟩)
 | (refine aw_cond (by conv => lhs; whnf) ?_ ?_ <;> intro hb)
 | refine k_seq_ret ?_
 | refine k_end_ret ?_
 | (refine ⟨_, by conv => lhs; whnf; arg 2; whnf, ?_⟩; conv => rhs; whnf)
 | exact trivial)
  · rw [eqL_ne (by assumption)]
  · have hlen : l.length = m.length := eqL_len (by assumption)
    refine aw_loop (fun j st => ∃ i, i + j = l.length ∧ (∀ q, q < i → f (gD l q) (gD m q) = true) ∧ Sub (cx EN Tryz.prog s w he) st (HEqVar l m i)) l.length ⟨0, by omega, fun q hq => by omega, ?_⟩ ?_
    · exact Sub.live ⟨rfl, rfl, rfl, rfl, rfl, trivial⟩ trivial
    · rintro j st ⟨i, hij, hall, hs2⟩
      refine aw_sub hs2 ?_
      have hg2 := fun (h : decide ((i : Int) < (l.length : Int)) = true) => hg i (by simpa using h) (by rw [← hlen]; simpa using h)
      repeat' (first
 | refine aw_region ?_
 | refine awo_nil ?_
 | refine k_seq ?_
 | refine k_block ?_
 | (apply aw_1
    conv => whnf
    refine ⟨?_, trivial⟩)
 | (apply s_1
    conv => whnf; arg 1; arg 4; arg 3; whnf
    refine ⟨?_, ?_⟩)
 | (apply s_call rfl
    · conv => lhs; whnf
    · conv => lhs; whnf
    · first | exact hg2 (by assumption))
 | (apply s_store rfl rfl rfl
    · conv => lhs; whnf
    · conv => lhs; whnf; arg 1; whnf
    · conv => lhs; whnf; arg 1; whnf
    · exact ⟨by kernel_rfl, by kernel_rfl⟩
    · rfl)
 | (refine aw_cond (by conv => lhs; whnf) ?_ ?_ <;> intro hb)
 | refine k_seq_exit ?_
 | refine k_seq_ret ?_
 | refine k_block_ret ?_
 | refine k_block_hit rfl ?_
 | refine k_loop_exit ?_
 | refine k_loop_ret ?_
 | refine k_end_ret ?_
 | (refine ⟨_, by conv => lhs; whnf; arg 2; whnf, ?_⟩; conv => rhs; whnf)
 | exact trivial)
      · have hlt : i < l.length := by have h : decide ((i : Int) < (l.length : Int)) = true := by assumption
                                      simpa using h
        have hf : (!f (gD l i) (gD m i)) = true := by assumption
        rw [eqL_bad hlt (by simpa using hf)]
      · have hf : (!f (gD l i) (gD m i)) = false := by assumption
        have hlt : i < l.length := by have h : decide ((i : Int) < (l.length : Int)) = true := by assumption
                                      simpa using h
        refine k_loop_next (j' := j - 1) (by omega) ⟨i + 1, by omega, fun q hq => ?_, Sub.live ⟨rfl, rfl, rfl, rfl, rfl, trivial⟩ trivial⟩
        by_cases e : q = i
        · subst e; simpa using hf
        · exact hall q (by omega)
      · exact i64_ok (by omega)
      · have h : decide ((i : Int) < (l.length : Int)) = true := by assumption
        simp at h; omega
      · have h : decide ((i : Int) < (l.length : Int)) = true := by assumption
        simp at h; omega
      · have h : decide ((i : Int) < (l.length : Int)) = false := by assumption
        simp at h
        rw [eqL_all hlen fun q hq => hall q (by omega)]
noncomputable def HEqSel (l m : List D) (i : Nat) : Vst 32 :=
  stS 32 [(1, .sl 76 m), (2, .c (.func (.func 130) #[] #[])), (15, .sl 76 l), (16, .c (.int .i64 l.length)), (17, .c (.int .i64 i))] []
set_option maxRecDepth 100000 in
set_option maxHeartbeats 8000000 in
theorem eqFSel_ac (l m : List D) (f : D → D → Bool) (hn : l.length ≤ 100000000) (hg : ∀ i, i < l.length → i < m.length → AC EN Tryz.prog 130 [.agg (cellsV Tryz.prog 12 76 (gD l i)), .agg (cellsV Tryz.prog 12 76 (gD m i))] (.c (.bool (f (gD l i) (gD m i))))) :
    AC EN Tryz.prog 129 [.sl 76 l, .sl 76 m, .c (.func (.func 130) #[] #[])] (.c (.bool (eqL f l m))) := by
  refine ac_enter 32 Tryz.func129 rfl rfl rfl rfl ?_
  intro s w he
  repeat' (first
 | refine aw_region ?_
 | refine awo_nil ?_
 | refine k_seq ?_
 | (apply aw_1
    conv => whnf
    refine ⟨?_, trivial⟩)
 | (apply s_1
    conv => whnf; arg 1; arg 4; arg 3; whnf
    refine ⟨?_, ?_⟩)
 | (refine aw_cond (by conv => lhs; whnf) ?_ ?_ <;> intro hb)
 | refine k_seq_ret ?_
 | refine k_end_ret ?_
 | (refine ⟨_, by conv => lhs; whnf; arg 2; whnf, ?_⟩; conv => rhs; whnf)
 | exact trivial)
  · rw [eqL_ne (by assumption)]
  · have hlen : l.length = m.length := eqL_len (by assumption)
    refine aw_loop (fun j st => ∃ i, i + j = l.length ∧ (∀ q, q < i → f (gD l q) (gD m q) = true) ∧ Sub (cx EN Tryz.prog s w he) st (HEqSel l m i)) l.length ⟨0, by omega, fun q hq => by omega, ?_⟩ ?_
    · exact Sub.live ⟨rfl, rfl, rfl, rfl, rfl, trivial⟩ trivial
    · rintro j st ⟨i, hij, hall, hs2⟩
      refine aw_sub hs2 ?_
      have hg2 := fun (h : decide ((i : Int) < (l.length : Int)) = true) => hg i (by simpa using h) (by rw [← hlen]; simpa using h)
      repeat' (first
 | refine aw_region ?_
 | refine awo_nil ?_
 | refine k_seq ?_
 | refine k_block ?_
 | (apply aw_1
    conv => whnf
    refine ⟨?_, trivial⟩)
 | (apply s_1
    conv => whnf; arg 1; arg 4; arg 3; whnf
    refine ⟨?_, ?_⟩)
 | (apply s_call rfl
    · conv => lhs; whnf
    · conv => lhs; whnf
    · first | exact hg2 (by assumption))
 | (apply s_store rfl rfl rfl
    · conv => lhs; whnf
    · conv => lhs; whnf; arg 1; whnf
    · conv => lhs; whnf; arg 1; whnf
    · exact ⟨by kernel_rfl, by kernel_rfl⟩
    · rfl)
 | (refine aw_cond (by conv => lhs; whnf) ?_ ?_ <;> intro hb)
 | refine k_seq_exit ?_
 | refine k_seq_ret ?_
 | refine k_block_ret ?_
 | refine k_block_hit rfl ?_
 | refine k_loop_exit ?_
 | refine k_loop_ret ?_
 | refine k_end_ret ?_
 | (refine ⟨_, by conv => lhs; whnf; arg 2; whnf, ?_⟩; conv => rhs; whnf)
 | exact trivial)
      · have hlt : i < l.length := by have h : decide ((i : Int) < (l.length : Int)) = true := by assumption
                                      simpa using h
        have hf : (!f (gD l i) (gD m i)) = true := by assumption
        rw [eqL_bad hlt (by simpa using hf)]
      · have hf : (!f (gD l i) (gD m i)) = false := by assumption
        have hlt : i < l.length := by have h : decide ((i : Int) < (l.length : Int)) = true := by assumption
                                      simpa using h
        refine k_loop_next (j' := j - 1) (by omega) ⟨i + 1, by omega, fun q hq => ?_, Sub.live ⟨rfl, rfl, rfl, rfl, rfl, trivial⟩ trivial⟩
        by_cases e : q = i
        · subst e; simpa using hf
        · exact hall q (by omega)
      · exact i64_ok (by omega)
      · have h : decide ((i : Int) < (l.length : Int)) = true := by assumption
        simp at h; omega
      · have h : decide ((i : Int) < (l.length : Int)) = true := by assumption
        simp at h; omega
      · have h : decide ((i : Int) < (l.length : Int)) = false := by assumption
        simp at h
        rw [eqL_all hlen fun q hq => hall q (by omega)]
noncomputable def HEqOp (l m : List D) (i : Nat) : Vst 32 :=
  stS 32 [(1, .sl 57 m), (2, .c (.func (.func 63) #[] #[])), (15, .sl 57 l), (16, .c (.int .i64 l.length)), (17, .c (.int .i64 i))] []
set_option maxRecDepth 100000 in
set_option maxHeartbeats 8000000 in
theorem eqFOp_ac (l m : List D) (f : D → D → Bool) (hn : l.length ≤ 100000000) (hg : ∀ i, i < l.length → i < m.length → AC EN Tryz.prog 63 [.agg (cellsV Tryz.prog 12 57 (gD l i)), .agg (cellsV Tryz.prog 12 57 (gD m i))] (.c (.bool (f (gD l i) (gD m i))))) :
    AC EN Tryz.prog 62 [.sl 57 l, .sl 57 m, .c (.func (.func 63) #[] #[])] (.c (.bool (eqL f l m))) := by
  refine ac_enter 32 Tryz.func62 rfl rfl rfl rfl ?_
  intro s w he
  repeat' (first
 | refine aw_region ?_
 | refine awo_nil ?_
 | refine k_seq ?_
 | (apply aw_1
    conv => whnf
    refine ⟨?_, trivial⟩)
 | (apply s_1
    conv => whnf; arg 1; arg 4; arg 3; whnf
    refine ⟨?_, ?_⟩)
 | (refine aw_cond (by conv => lhs; whnf) ?_ ?_ <;> intro hb)
 | refine k_seq_ret ?_
 | refine k_end_ret ?_
 | (refine ⟨_, by conv => lhs; whnf; arg 2; whnf, ?_⟩; conv => rhs; whnf)
 | exact trivial)
  · rw [eqL_ne (by assumption)]
  · have hlen : l.length = m.length := eqL_len (by assumption)
    refine aw_loop (fun j st => ∃ i, i + j = l.length ∧ (∀ q, q < i → f (gD l q) (gD m q) = true) ∧ Sub (cx EN Tryz.prog s w he) st (HEqOp l m i)) l.length ⟨0, by omega, fun q hq => by omega, ?_⟩ ?_
    · exact Sub.live ⟨rfl, rfl, rfl, rfl, rfl, trivial⟩ trivial
    · rintro j st ⟨i, hij, hall, hs2⟩
      refine aw_sub hs2 ?_
      have hg2 := fun (h : decide ((i : Int) < (l.length : Int)) = true) => hg i (by simpa using h) (by rw [← hlen]; simpa using h)
      repeat' (first
 | refine aw_region ?_
 | refine awo_nil ?_
 | refine k_seq ?_
 | refine k_block ?_
 | (apply aw_1
    conv => whnf
    refine ⟨?_, trivial⟩)
 | (apply s_1
    conv => whnf; arg 1; arg 4; arg 3; whnf
    refine ⟨?_, ?_⟩)
 | (apply s_call rfl
    · conv => lhs; whnf
    · conv => lhs; whnf
    · first | exact hg2 (by assumption))
 | (apply s_store rfl rfl rfl
    · conv => lhs; whnf
    · conv => lhs; whnf; arg 1; whnf
    · conv => lhs; whnf; arg 1; whnf
    · exact ⟨by kernel_rfl, by kernel_rfl⟩
    · rfl)
 | (refine aw_cond (by conv => lhs; whnf) ?_ ?_ <;> intro hb)
 | refine k_seq_exit ?_
 | refine k_seq_ret ?_
 | refine k_block_ret ?_
 | refine k_block_hit rfl ?_
 | refine k_loop_exit ?_
 | refine k_loop_ret ?_
 | refine k_end_ret ?_
 | (refine ⟨_, by conv => lhs; whnf; arg 2; whnf, ?_⟩; conv => rhs; whnf)
 | exact trivial)
      · have hlt : i < l.length := by have h : decide ((i : Int) < (l.length : Int)) = true := by assumption
                                      simpa using h
        have hf : (!f (gD l i) (gD m i)) = true := by assumption
        rw [eqL_bad hlt (by simpa using hf)]
      · have hf : (!f (gD l i) (gD m i)) = false := by assumption
        have hlt : i < l.length := by have h : decide ((i : Int) < (l.length : Int)) = true := by assumption
                                      simpa using h
        refine k_loop_next (j' := j - 1) (by omega) ⟨i + 1, by omega, fun q hq => ?_, Sub.live ⟨rfl, rfl, rfl, rfl, rfl, trivial⟩ trivial⟩
        by_cases e : q = i
        · subst e; simpa using hf
        · exact hall q (by omega)
      · exact i64_ok (by omega)
      · have h : decide ((i : Int) < (l.length : Int)) = true := by assumption
        simp at h; omega
      · have h : decide ((i : Int) < (l.length : Int)) = true := by assumption
        simp at h; omega
      · have h : decide ((i : Int) < (l.length : Int)) = false := by assumption
        simp at h
        rw [eqL_all hlen fun q hq => hall q (by omega)]
noncomputable def HEqFrag (l m : List D) (i : Nat) : Vst 32 :=
  stS 32 [(1, .sl 116 m), (2, .c (.func (.func 65) #[] #[])), (15, .sl 116 l), (16, .c (.int .i64 l.length)), (17, .c (.int .i64 i))] []
set_option maxRecDepth 100000 in
set_option maxHeartbeats 8000000 in
theorem eqFFrag_ac (l m : List D) (f : D → D → Bool) (hn : l.length ≤ 100000000) (hg : ∀ i, i < l.length → i < m.length → AC EN Tryz.prog 65 [.agg (cellsV Tryz.prog 12 116 (gD l i)), .agg (cellsV Tryz.prog 12 116 (gD m i))] (.c (.bool (f (gD l i) (gD m i))))) :
    AC EN Tryz.prog 64 [.sl 116 l, .sl 116 m, .c (.func (.func 65) #[] #[])] (.c (.bool (eqL f l m))) := by
  refine ac_enter 32 Tryz.func64 rfl rfl rfl rfl ?_
  intro s w he
  repeat' (first
 | refine aw_region ?_
 | refine awo_nil ?_
 | refine k_seq ?_
 | (apply aw_1
    conv => whnf
    refine ⟨?_, trivial⟩)
 | (apply s_1
    conv => whnf; arg 1; arg 4; arg 3; whnf
    refine ⟨?_, ?_⟩)
 | (refine aw_cond (by conv => lhs; whnf) ?_ ?_ <;> intro hb)
 | refine k_seq_ret ?_
 | refine k_end_ret ?_
 | (refine ⟨_, by conv => lhs; whnf; arg 2; whnf, ?_⟩; conv => rhs; whnf)
 | exact trivial)
  · rw [eqL_ne (by assumption)]
  · have hlen : l.length = m.length := eqL_len (by assumption)
    refine aw_loop (fun j st => ∃ i, i + j = l.length ∧ (∀ q, q < i → f (gD l q) (gD m q) = true) ∧ Sub (cx EN Tryz.prog s w he) st (HEqFrag l m i)) l.length ⟨0, by omega, fun q hq => by omega, ?_⟩ ?_
    · exact Sub.live ⟨rfl, rfl, rfl, rfl, rfl, trivial⟩ trivial
    · rintro j st ⟨i, hij, hall, hs2⟩
      refine aw_sub hs2 ?_
      have hg2 := fun (h : decide ((i : Int) < (l.length : Int)) = true) => hg i (by simpa using h) (by rw [← hlen]; simpa using h)
      repeat' (first
 | refine aw_region ?_
 | refine awo_nil ?_
 | refine k_seq ?_
 | refine k_block ?_
 | (apply aw_1
    conv => whnf
    refine ⟨?_, trivial⟩)
 | (apply s_1
    conv => whnf; arg 1; arg 4; arg 3; whnf
    refine ⟨?_, ?_⟩)
 | (apply s_call rfl
    · conv => lhs; whnf
    · conv => lhs; whnf
    · first | exact hg2 (by assumption))
 | (apply s_store rfl rfl rfl
    · conv => lhs; whnf
    · conv => lhs; whnf; arg 1; whnf
    · conv => lhs; whnf; arg 1; whnf
    · exact ⟨by kernel_rfl, by kernel_rfl⟩
    · rfl)
 | (refine aw_cond (by conv => lhs; whnf) ?_ ?_ <;> intro hb)
 | refine k_seq_exit ?_
 | refine k_seq_ret ?_
 | refine k_block_ret ?_
 | refine k_block_hit rfl ?_
 | refine k_loop_exit ?_
 | refine k_loop_ret ?_
 | refine k_end_ret ?_
 | (refine ⟨_, by conv => lhs; whnf; arg 2; whnf, ?_⟩; conv => rhs; whnf)
 | exact trivial)
      · have hlt : i < l.length := by have h : decide ((i : Int) < (l.length : Int)) = true := by assumption
                                      simpa using h
        have hf : (!f (gD l i) (gD m i)) = true := by assumption
        rw [eqL_bad hlt (by simpa using hf)]
      · have hf : (!f (gD l i) (gD m i)) = false := by assumption
        have hlt : i < l.length := by have h : decide ((i : Int) < (l.length : Int)) = true := by assumption
                                      simpa using h
        refine k_loop_next (j' := j - 1) (by omega) ⟨i + 1, by omega, fun q hq => ?_, Sub.live ⟨rfl, rfl, rfl, rfl, rfl, trivial⟩ trivial⟩
        by_cases e : q = i
        · subst e; simpa using hf
        · exact hall q (by omega)
      · exact i64_ok (by omega)
      · have h : decide ((i : Int) < (l.length : Int)) = true := by assumption
        simp at h; omega
      · have h : decide ((i : Int) < (l.length : Int)) = true := by assumption
        simp at h; omega
      · have h : decide ((i : Int) < (l.length : Int)) = false := by assumption
        simp at h
        rw [eqL_all hlen fun q hq => hall q (by omega)]
noncomputable def HEqInt (l m : List D) (i : Nat) : Vst 26 :=
  stS 26 [(0, .sl 3 l), (1, .sl 3 m), (12, .c (.int .i64 l.length)), (13, .c (.int .i64 i))] []
set_option maxRecDepth 100000 in
set_option maxHeartbeats 8000000 in
theorem eqInt_ac (l m : List D) (hn : l.length ≤ 100000000) : AC EN Tryz.prog 283 [.sl 3 l, .sl 3 m] (.c (.bool (eqL intEq l m))) := by
  refine ac_enter 26 Tryz.func283 rfl rfl rfl rfl ?_
  intro s w he
  repeat' (first
 | refine aw_region ?_
 | refine awo_nil ?_
 | refine k_seq ?_
 | (apply aw_1
    conv => whnf
    refine ⟨?_, trivial⟩)
 | (apply s_1
    conv => whnf; arg 1; arg 4; arg 3; whnf
    refine ⟨?_, ?_⟩)
 | (refine aw_cond (by conv => lhs; whnf) ?_ ?_ <;> intro hb)
 | refine k_seq_ret ?_
 | refine k_end_ret ?_
 | (refine ⟨_, by conv => lhs; whnf; arg 2; whnf, ?_⟩; conv => rhs; whnf)
 | exact trivial)
  · rw [eqL_ne (by assumption)]
  · have hlen : l.length = m.length := eqL_len (by assumption)
    refine aw_loop (fun j st => ∃ i, i + j = l.length ∧ (∀ q, q < i → intEq (gD l q) (gD m q) = true) ∧ Sub (cx EN Tryz.prog s w he) st (HEqInt l m i)) l.length ⟨0, by omega, fun q hq => by omega, ?_⟩ ?_
    · exact Sub.live ⟨rfl, rfl, rfl, rfl, trivial⟩ trivial
    · rintro j st ⟨i, hij, hall, hs2⟩
      refine aw_sub hs2 ?_
      repeat' (first
 | refine aw_region ?_
 | refine awo_nil ?_
 | refine k_seq ?_
 | refine k_block ?_
 | (apply aw_1
    conv => whnf
    refine ⟨?_, trivial⟩)
 | (apply s_1
    conv => whnf; arg 1; arg 4; arg 3; whnf
    refine ⟨?_, ?_⟩)
 | (apply aw_draw (by kernel_rfl) (by kernel_rfl))
 | apply y_nil
 | (apply y_val rfl
    · conv => lhs; whnf
    · conv => lhs; whnf; arg 2; whnf)
 | exact apartB_none
 | exact apartB_nil
 | exact (1000000 : Nat)
 | (refine aw_cond (by conv => lhs; whnf) ?_ ?_ <;> intro hb)
 | refine k_seq_exit ?_
 | refine k_seq_ret ?_
 | refine k_block_ret ?_
 | refine k_block_hit rfl ?_
 | refine k_loop_exit ?_
 | refine k_loop_ret ?_
 | refine k_end_ret ?_
 | (refine ⟨_, by conv => lhs; whnf; arg 2; whnf, ?_⟩; conv => rhs; whnf)
 | exact trivial)
      · have hlt : i < l.length := by have h : decide ((i : Int) < (l.length : Int)) = true := by assumption
                                      simpa using h
        have hf : (!intEq (gD l i) (gD m i)) = true := by assumption
        rw [eqL_bad hlt (by simpa using hf)]
      · have hf : (!intEq (gD l i) (gD m i)) = false := by assumption
        have hlt : i < l.length := by have h : decide ((i : Int) < (l.length : Int)) = true := by assumption
                                      simpa using h
        refine k_loop_next (j' := j - 1) (by omega) ⟨i + 1, by omega, fun q hq => ?_, Sub.live ⟨rfl, rfl, rfl, rfl, trivial⟩ trivial⟩
        by_cases e : q = i
        · subst e; simpa using hf
        · exact hall q (by omega)
      · exact i64_ok (by omega)
      · have h : decide ((i : Int) < (l.length : Int)) = true := by assumption
        simp at h; omega
      · have h : decide ((i : Int) < (l.length : Int)) = true := by assumption
        simp at h; omega
      · have h : decide ((i : Int) < (l.length : Int)) = false := by assumption
        simp at h
        rw [eqL_all hlen fun q hq => hall q (by omega)]
end Go.Proofs.YthjiclhfhjdjpaaGreatDoor
namespace Go.Proofs.YthjiclhfhjdjpaaGreatDoor
open Go.RowKit
set_option linter.unusedSectionVars false
attribute [local irreducible] wpList Calls Code.wp AW AWo OpOk seqK blockK scopeK loopK endK AC absLex Yld Sub
attribute [local irreducible] ACB ACX absLexG YldG absLexH
def valEq (a b : D) : Bool := cmpV (bulkD a + bulkD b) a b == 0
def sEq (a b : D) : Bool := a.s.toList == b.s.toList
def argEq (a b : D) : Bool := sEq (a.f 0) (b.f 0) && valEq (a.f 1) (b.f 1)
def dirEq (a b : D) : Bool := sEq (a.f 0) (b.f 0) && eqL argEq (a.f 1).l (b.f 1).l
def refEq (a b : D) : Bool := sEq (a.f 0) (b.f 0) && eqL intEq (a.f 1).l (b.f 1).l
def varEq (a b : D) : Bool := sEq (a.f 0) (b.f 0) && (refEq (a.f 1) (b.f 1) && ((a.f 2).b == (b.f 2).b && valEq (a.f 3) (b.f 3)))
def selEq : Nat → D → D → Bool
  | 0, _, _ => false
  | k + 1, a, b => ((a.f 0).n == (b.f 0).n) && (sEq (a.f 1) (b.f 1) && (sEq (a.f 2) (b.f 2) && (sEq (a.f 3) (b.f 3) && (eqL argEq (a.f 4).l (b.f 4).l && (eqL dirEq (a.f 5).l (b.f 5).l && eqL (selEq k) (a.f 6).l (b.f 6).l)))))
def opEq (k : Nat) (a b : D) : Bool := ((a.f 0).n == (b.f 0).n) && (sEq (a.f 1) (b.f 1) && (eqL varEq (a.f 2).l (b.f 2).l && eqL (selEq k) (a.f 3).l (b.f 3).l))
def frgEq (k : Nat) (a b : D) : Bool := sEq (a.f 0) (b.f 0) && (sEq (a.f 1) (b.f 1) && eqL (selEq k) (a.f 2).l (b.f 2).l)
def queEq (k : Nat) (a b c d : List D) : Bool := eqL (opEq k) a c && eqL (frgEq k) b d
set_option maxHeartbeats 8000000 in
set_option maxRecDepth 100000 in
theorem valP_ac (a b : D) (ha : bulkD a ≤ 400000000) (hb : bulkD b ≤ 400000000) : AC EN Tryz.prog 154 [.agg (cellsV Tryz.prog 12 84 a), .agg (cellsV Tryz.prog 12 84 b)] (.c (.bool (valEq a b))) :=
  same_valE _ a b (dp_bulk _ _ (by omega)) (dp_bulk _ _ (by omega)) (by omega) (by omega)
set_option maxHeartbeats 8000000 in
set_option maxRecDepth 100000 in
theorem fld_bulk (a : D) (i : Nat) : bulkD (a.f i) ≤ bulkD a ∧ bulkL (a.f i).l ≤ bulkD a ∧ bulkL (a.f i).l < bulkD a := by
  have h1 := wD_f a i
  have h2 := bulkD_wD a
  have h3 := bulkD_wD (a.f i)
  have h4 := wD_list (a.f i)
  omega
set_option maxHeartbeats 8000000 in
set_option maxRecDepth 100000 in
theorem itm_bulk {l : List D} {i : Nat} (h : i < l.length) {N : Nat} (hb : bulkL l ≤ N) : bulkD (gD l i) ≤ N := Nat.le_trans (bulkL_get h) hb
set_option maxHeartbeats 8000000 in
set_option maxRecDepth 100000 in
theorem argP_ac (a b : D) (ha : bulkD a ≤ 100000000) (hb : bulkD b ≤ 100000000) : AC EN Tryz.prog 208 [.agg (cellsV Tryz.prog 12 86 a), .agg (cellsV Tryz.prog 12 86 b)] (.c (.bool (argEq a b))) := by
  have h1 := valP_ac (a.f 1) (b.f 1) (by have := fld_bulk a 1; omega) (by have := fld_bulk b 1; omega)
  unfold argEq sEq
  refine ac_enter 17 Tryz.func208 rfl rfl rfl rfl ?_
  intro s w he
  repeat' (first
 | refine aw_region ?_
 | refine awo_nil ?_
 | refine k_seq ?_
 | (apply aw_1
    conv => whnf
    refine ⟨?_, trivial⟩)
 | (apply s_pick_t rfl rfl
    · conv => lhs; whnf
    · conv => lhs; whnf
    · first | exact bT1 (by assumption) | exact bT2 (by assumption))
 | (apply s_pick_f rfl rfl
    · conv => lhs; whnf
    · conv => lhs; whnf
    · first | exact bF1 (by assumption) | exact bF2 (by assumption))
 | (apply s_1
    conv => whnf; arg 1; arg 4; arg 3; whnf
    refine ⟨?_, ?_⟩)
 | (apply s_box rfl rfl rfl rfl
    · conv => lhs; whnf; arg 1; whnf
    · rfl)
 | (apply s_wanted_val rfl
    · conv => lhs; whnf
    · conv => lhs; whnf
    · first | rfl | assumption
    · conv => lhs; whnf; arg 2; whnf)
 | (apply s_wanted_call rfl
    · conv => lhs; whnf
    · conv => lhs; whnf
    · first | rfl | assumption
    · conv => lhs; whnf
    · first | exact h1)
 | (apply s_skipU rfl
    · conv => lhs; whnf
    · conv => lhs; whnf
    · first | rfl | assumption)
 | (apply s_guard_valU rfl
    · conv => lhs; whnf
    · conv => lhs; whnf
    · conv => lhs; whnf; arg 2; whnf)
 | refine k_end_ret ?_
 | (refine ⟨_, by conv => lhs; whnf; arg 2; whnf, ?_⟩; conv => rhs; whnf)
 | exact trivial
 | intro hg)
  all_goals first | exact Tryz.underlying4 | (simp only [beq_true] at *; simp only [*, Bool.true_and, Bool.false_and, Bool.and_true, Bool.and_false])
set_option maxHeartbeats 8000000 in
set_option maxRecDepth 100000 in
theorem dirP_ac (a b : D) (ha : bulkD a ≤ 100000000) (hb : bulkD b ≤ 100000000) : AC EN Tryz.prog 210 [.agg (cellsV Tryz.prog 12 150 a), .agg (cellsV Tryz.prog 12 150 b)] (.c (.bool (dirEq a b))) := by
  have h1 := eqFArg_ac (a.f 1).l (b.f 1).l argEq (by have := len_bulk (a.f 1).l; have := fld_bulk a 1; omega) fun i hi hj => argP_ac _ _ (by have := fld_bulk a 1; have := itm_bulk hi (Nat.le_refl _); omega) (by have := fld_bulk b 1; have := itm_bulk hj (Nat.le_refl _); omega)
  unfold dirEq sEq
  refine ac_enter 17 Tryz.func210 rfl rfl rfl rfl ?_
  intro s w he
  repeat' (first
 | refine aw_region ?_
 | refine awo_nil ?_
 | refine k_seq ?_
 | (apply aw_1
    conv => whnf
    refine ⟨?_, trivial⟩)
 | (apply s_pick_t rfl rfl
    · conv => lhs; whnf
    · conv => lhs; whnf
    · first | exact bT1 (by assumption) | exact bT2 (by assumption))
 | (apply s_pick_f rfl rfl
    · conv => lhs; whnf
    · conv => lhs; whnf
    · first | exact bF1 (by assumption) | exact bF2 (by assumption))
 | (apply s_1
    conv => whnf; arg 1; arg 4; arg 3; whnf
    refine ⟨?_, ?_⟩)
 | (apply s_box rfl rfl rfl rfl
    · conv => lhs; whnf; arg 1; whnf
    · rfl)
 | (apply s_wanted_val rfl
    · conv => lhs; whnf
    · conv => lhs; whnf
    · first | rfl | assumption
    · conv => lhs; whnf; arg 2; whnf)
 | (apply s_wanted_call rfl
    · conv => lhs; whnf
    · conv => lhs; whnf
    · first | rfl | assumption
    · conv => lhs; whnf
    · first | exact h1)
 | (apply s_skipU rfl
    · conv => lhs; whnf
    · conv => lhs; whnf
    · first | rfl | assumption)
 | (apply s_guard_valU rfl
    · conv => lhs; whnf
    · conv => lhs; whnf
    · conv => lhs; whnf; arg 2; whnf)
 | refine k_end_ret ?_
 | (refine ⟨_, by conv => lhs; whnf; arg 2; whnf, ?_⟩; conv => rhs; whnf)
 | exact trivial
 | intro hg)
  all_goals first | exact Tryz.underlying4 | (simp only [beq_true] at *; simp only [*, Bool.true_and, Bool.false_and, Bool.and_true, Bool.and_false])
set_option maxHeartbeats 8000000 in
set_option maxRecDepth 100000 in
theorem refE_ac (a b : D) (ha : bulkD a ≤ 100000000) (hb : bulkD b ≤ 100000000) : AC EN Tryz.prog 206 [.agg (cellsV Tryz.prog 12 71 a), .agg (cellsV Tryz.prog 12 71 b)] (.c (.bool (refEq a b))) := by
  have h1 := eqInt_ac (a.f 1).l (b.f 1).l (by have := len_bulk (a.f 1).l; have := fld_bulk a 1; omega)
  unfold refEq sEq
  refine ac_enter 17 Tryz.func206 rfl rfl rfl rfl ?_
  intro s w he
  repeat' (first
 | refine aw_region ?_
 | refine awo_nil ?_
 | refine k_seq ?_
 | (apply aw_1
    conv => whnf
    refine ⟨?_, trivial⟩)
 | (apply s_pick_t rfl rfl
    · conv => lhs; whnf
    · conv => lhs; whnf
    · first | exact bT1 (by assumption) | exact bT2 (by assumption))
 | (apply s_pick_f rfl rfl
    · conv => lhs; whnf
    · conv => lhs; whnf
    · first | exact bF1 (by assumption) | exact bF2 (by assumption))
 | (apply s_1
    conv => whnf; arg 1; arg 4; arg 3; whnf
    refine ⟨?_, ?_⟩)
 | (apply s_box rfl rfl rfl rfl
    · conv => lhs; whnf; arg 1; whnf
    · rfl)
 | (apply s_wanted_val rfl
    · conv => lhs; whnf
    · conv => lhs; whnf
    · first | rfl | assumption
    · conv => lhs; whnf; arg 2; whnf)
 | (apply s_wanted_call rfl
    · conv => lhs; whnf
    · conv => lhs; whnf
    · first | rfl | assumption
    · conv => lhs; whnf
    · first | exact h1)
 | (apply s_skipU rfl
    · conv => lhs; whnf
    · conv => lhs; whnf
    · first | rfl | assumption)
 | (apply s_guard_valU rfl
    · conv => lhs; whnf
    · conv => lhs; whnf
    · conv => lhs; whnf; arg 2; whnf)
 | refine k_end_ret ?_
 | (refine ⟨_, by conv => lhs; whnf; arg 2; whnf, ?_⟩; conv => rhs; whnf)
 | exact trivial
 | intro hg)
  all_goals first | exact Tryz.underlying4 | (simp only [beq_true] at *; simp only [*, Bool.true_and, Bool.false_and, Bool.and_true, Bool.and_false])
set_option maxHeartbeats 8000000 in
set_option maxRecDepth 100000 in
theorem varE_ac (a b : D) (ha : bulkD a ≤ 100000000) (hb : bulkD b ≤ 100000000) : AC EN Tryz.prog 128 [.agg (cellsV Tryz.prog 12 88 a), .agg (cellsV Tryz.prog 12 88 b)] (.c (.bool (varEq a b))) := by
  have h1 := refE_ac (a.f 1) (b.f 1) (by have := fld_bulk a 1; omega) (by have := fld_bulk b 1; omega)
  have h2 := valP_ac (a.f 3) (b.f 3) (by have := fld_bulk a 3; omega) (by have := fld_bulk b 3; omega)
  unfold varEq sEq
  refine ac_enter 31 Tryz.func128 rfl rfl rfl rfl ?_
  intro s w he
  repeat' (first
 | refine aw_region ?_
 | refine awo_nil ?_
 | refine k_seq ?_
 | (apply aw_1
    conv => whnf
    refine ⟨?_, trivial⟩)
 | (apply s_pick_t rfl rfl
    · conv => lhs; whnf
    · conv => lhs; whnf
    · first | exact bT1 (by assumption) | exact bT2 (by assumption))
 | (apply s_pick_f rfl rfl
    · conv => lhs; whnf
    · conv => lhs; whnf
    · first | exact bF1 (by assumption) | exact bF2 (by assumption))
 | (apply s_1
    conv => whnf; arg 1; arg 4; arg 3; whnf
    refine ⟨?_, ?_⟩)
 | (apply s_box rfl rfl rfl rfl
    · conv => lhs; whnf; arg 1; whnf
    · rfl)
 | (apply s_wanted_val rfl
    · conv => lhs; whnf
    · conv => lhs; whnf
    · first | rfl | assumption
    · conv => lhs; whnf; arg 2; whnf)
 | (apply s_wanted_call rfl
    · conv => lhs; whnf
    · conv => lhs; whnf
    · first | rfl | assumption
    · conv => lhs; whnf
    · first | exact h1 | exact h2)
 | (apply s_skipU rfl
    · conv => lhs; whnf
    · conv => lhs; whnf
    · first | rfl | assumption)
 | (apply s_guard_valU rfl
    · conv => lhs; whnf
    · conv => lhs; whnf
    · conv => lhs; whnf; arg 2; whnf)
 | refine k_end_ret ?_
 | (refine ⟨_, by conv => lhs; whnf; arg 2; whnf, ?_⟩; conv => rhs; whnf)
 | exact trivial
 | intro hg)
  all_goals first | exact Tryz.underlying4 | (simp only [beq_true] at *; simp only [*, Bool.true_and, Bool.false_and, Bool.and_true, Bool.and_false])
set_option maxHeartbeats 8000000 in
set_option maxRecDepth 100000 in
theorem selE_ac : ∀ (k : Nat) (a b : D), bulkD a < k → bulkD a ≤ 100000000 → bulkD b ≤ 100000000 → AC EN Tryz.prog 130 [.agg (cellsV Tryz.prog 12 76 a), .agg (cellsV Tryz.prog 12 76 b)] (.c (.bool (selEq k a b)))
  | 0, _, _, h, _, _ => by omega
  | k + 1, a, b, h, ha, hb => by
    have h1 := eqFArg_ac (a.f 4).l (b.f 4).l argEq (by have := len_bulk (a.f 4).l; have := fld_bulk a 4; omega) fun i hi hj => argP_ac _ _ (by have := fld_bulk a 4; have := itm_bulk hi (Nat.le_refl _); omega) (by have := fld_bulk b 4; have := itm_bulk hj (Nat.le_refl _); omega)
    have h2 := eqFDir_ac (a.f 5).l (b.f 5).l dirEq (by have := len_bulk (a.f 5).l; have := fld_bulk a 5; omega) fun i hi hj => dirP_ac _ _ (by have := fld_bulk a 5; have := itm_bulk hi (Nat.le_refl _); omega) (by have := fld_bulk b 5; have := itm_bulk hj (Nat.le_refl _); omega)
    have h3 := eqFSel_ac (a.f 6).l (b.f 6).l (selEq k) (by have := len_bulk (a.f 6).l; have := fld_bulk a 6; omega) fun i hi hj => selE_ac k _ _ (by have := fld_bulk a 6; have := itm_bulk hi (Nat.le_refl _); omega) (by have := fld_bulk a 6; have := itm_bulk hi (Nat.le_refl _); omega) (by have := fld_bulk b 6; have := itm_bulk hj (Nat.le_refl _); omega)
    unfold selEq sEq
    refine ac_enter 52 Tryz.func130 rfl rfl rfl rfl ?_
    intro s w he
    repeat' (first
 | refine aw_region ?_
 | refine awo_nil ?_
 | refine k_seq ?_
 | (apply aw_1
    conv => whnf
    refine ⟨?_, trivial⟩)
 | (apply s_pick_t rfl rfl
    · conv => lhs; whnf
    · conv => lhs; whnf
    · first | exact bT1 (by assumption) | exact bT2 (by assumption))
 | (apply s_pick_f rfl rfl
    · conv => lhs; whnf
    · conv => lhs; whnf
    · first | exact bF1 (by assumption) | exact bF2 (by assumption))
 | (apply s_1
    conv => whnf; arg 1; arg 4; arg 3; whnf
    refine ⟨?_, ?_⟩)
 | (apply s_box rfl rfl rfl rfl
    · conv => lhs; whnf; arg 1; whnf
    · rfl)
 | (apply s_wanted_val rfl
    · conv => lhs; whnf
    · conv => lhs; whnf
    · first | rfl | assumption
    · conv => lhs; whnf; arg 2; whnf)
 | (apply s_wanted_call rfl
    · conv => lhs; whnf
    · conv => lhs; whnf
    · first | rfl | assumption
    · conv => lhs; whnf
    · first | exact h1 | exact h2 | exact h3)
 | (apply s_skipU rfl
    · conv => lhs; whnf
    · conv => lhs; whnf
    · first | rfl | assumption)
 | (apply s_guard_valU rfl
    · conv => lhs; whnf
    · conv => lhs; whnf
    · conv => lhs; whnf; arg 2; whnf)
 | refine k_end_ret ?_
 | (refine ⟨_, by conv => lhs; whnf; arg 2; whnf, ?_⟩; conv => rhs; whnf)
 | exact trivial
 | intro hg)
    all_goals first | exact Tryz.underlying4 | (simp only [beq_true] at *; simp only [*, Bool.true_and, Bool.false_and, Bool.and_true, Bool.and_false])
set_option maxHeartbeats 8000000 in
set_option maxRecDepth 100000 in
theorem opE_ac (k : Nat) (a b : D) (hk : bulkD a ≤ k) (ha : bulkD a ≤ 100000000) (hb : bulkD b ≤ 100000000) : AC EN Tryz.prog 63 [.agg (cellsV Tryz.prog 12 57 a), .agg (cellsV Tryz.prog 12 57 b)] (.c (.bool (opEq k a b))) := by
  have h1 := eqFVar_ac (a.f 2).l (b.f 2).l varEq (by have := len_bulk (a.f 2).l; have := fld_bulk a 2; omega) fun i hi hj => varE_ac _ _ (by have := fld_bulk a 2; have := itm_bulk hi (Nat.le_refl _); omega) (by have := fld_bulk b 2; have := itm_bulk hj (Nat.le_refl _); omega)
  have h2 := eqFSel_ac (a.f 3).l (b.f 3).l (selEq k) (by have := len_bulk (a.f 3).l; have := fld_bulk a 3; omega) fun i hi hj => selE_ac k _ _ (by have := fld_bulk a 3; have := itm_bulk hi (Nat.le_refl _); omega) (by have := fld_bulk a 3; have := itm_bulk hi (Nat.le_refl _); omega) (by have := fld_bulk b 3; have := itm_bulk hj (Nat.le_refl _); omega)
  unfold opEq sEq
  refine ac_enter 31 Tryz.func63 rfl rfl rfl rfl ?_
  intro s w he
  repeat' (first
 | refine aw_region ?_
 | refine awo_nil ?_
 | refine k_seq ?_
 | (apply aw_1
    conv => whnf
    refine ⟨?_, trivial⟩)
 | (apply s_pick_t rfl rfl
    · conv => lhs; whnf
    · conv => lhs; whnf
    · first | exact bT1 (by assumption) | exact bT2 (by assumption))
 | (apply s_pick_f rfl rfl
    · conv => lhs; whnf
    · conv => lhs; whnf
    · first | exact bF1 (by assumption) | exact bF2 (by assumption))
 | (apply s_1
    conv => whnf; arg 1; arg 4; arg 3; whnf
    refine ⟨?_, ?_⟩)
 | (apply s_box rfl rfl rfl rfl
    · conv => lhs; whnf; arg 1; whnf
    · rfl)
 | (apply s_wanted_val rfl
    · conv => lhs; whnf
    · conv => lhs; whnf
    · first | rfl | assumption
    · conv => lhs; whnf; arg 2; whnf)
 | (apply s_wanted_call rfl
    · conv => lhs; whnf
    · conv => lhs; whnf
    · first | rfl | assumption
    · conv => lhs; whnf
    · first | exact h1 | exact h2)
 | (apply s_skipU rfl
    · conv => lhs; whnf
    · conv => lhs; whnf
    · first | rfl | assumption)
 | (apply s_guard_valU rfl
    · conv => lhs; whnf
    · conv => lhs; whnf
    · conv => lhs; whnf; arg 2; whnf)
 | refine k_end_ret ?_
 | (refine ⟨_, by conv => lhs; whnf; arg 2; whnf, ?_⟩; conv => rhs; whnf)
 | exact trivial
 | intro hg)
  all_goals first | exact Tryz.underlying4 | (simp only [beq_true] at *; simp only [*, Bool.true_and, Bool.false_and, Bool.and_true, Bool.and_false])
set_option maxHeartbeats 8000000 in
set_option maxRecDepth 100000 in
theorem frgE_ac (k : Nat) (a b : D) (hk : bulkD a ≤ k) (ha : bulkD a ≤ 100000000) (hb : bulkD b ≤ 100000000) : AC EN Tryz.prog 65 [.agg (cellsV Tryz.prog 12 116 a), .agg (cellsV Tryz.prog 12 116 b)] (.c (.bool (frgEq k a b))) := by
  have h1 := eqFSel_ac (a.f 2).l (b.f 2).l (selEq k) (by have := len_bulk (a.f 2).l; have := fld_bulk a 2; omega) fun i hi hj => selE_ac k _ _ (by have := fld_bulk a 2; have := itm_bulk hi (Nat.le_refl _); omega) (by have := fld_bulk a 2; have := itm_bulk hi (Nat.le_refl _); omega) (by have := fld_bulk b 2; have := itm_bulk hj (Nat.le_refl _); omega)
  unfold frgEq sEq
  refine ac_enter 24 Tryz.func65 rfl rfl rfl rfl ?_
  intro s w he
  repeat' (first
 | refine aw_region ?_
 | refine awo_nil ?_
 | refine k_seq ?_
 | (apply aw_1
    conv => whnf
    refine ⟨?_, trivial⟩)
 | (apply s_pick_t rfl rfl
    · conv => lhs; whnf
    · conv => lhs; whnf
    · first | exact bT1 (by assumption) | exact bT2 (by assumption))
 | (apply s_pick_f rfl rfl
    · conv => lhs; whnf
    · conv => lhs; whnf
    · first | exact bF1 (by assumption) | exact bF2 (by assumption))
 | (apply s_1
    conv => whnf; arg 1; arg 4; arg 3; whnf
    refine ⟨?_, ?_⟩)
 | (apply s_box rfl rfl rfl rfl
    · conv => lhs; whnf; arg 1; whnf
    · rfl)
 | (apply s_wanted_val rfl
    · conv => lhs; whnf
    · conv => lhs; whnf
    · first | rfl | assumption
    · conv => lhs; whnf; arg 2; whnf)
 | (apply s_wanted_call rfl
    · conv => lhs; whnf
    · conv => lhs; whnf
    · first | rfl | assumption
    · conv => lhs; whnf
    · first | exact h1)
 | (apply s_skipU rfl
    · conv => lhs; whnf
    · conv => lhs; whnf
    · first | rfl | assumption)
 | (apply s_guard_valU rfl
    · conv => lhs; whnf
    · conv => lhs; whnf
    · conv => lhs; whnf; arg 2; whnf)
 | refine k_end_ret ?_
 | (refine ⟨_, by conv => lhs; whnf; arg 2; whnf, ?_⟩; conv => rhs; whnf)
 | exact trivial
 | intro hg)
  all_goals first | exact Tryz.underlying4 | (simp only [beq_true] at *; simp only [*, Bool.true_and, Bool.false_and, Bool.and_true, Bool.and_false])
set_option maxHeartbeats 8000000 in
set_option maxRecDepth 100000 in
theorem sameQ_ac (k : Nat) (a b c d : List D) (hka : bulkL a ≤ k) (hkb : bulkL b ≤ k) (ha : bulkL a ≤ 100000000) (hb : bulkL b ≤ 100000000) (hc : bulkL c ≤ 100000000) (hd : bulkL d ≤ 100000000) : AC EN Tryz.prog 31 [.agg [.sl 57 a, .sl 116 b], .agg [.sl 57 c, .sl 116 d]] (.c (.bool (queEq k a b c d))) := by
  have h1 := eqFOp_ac a c (opEq k) (by have := len_bulk a; omega) fun i hi hj => opE_ac k _ _ (itm_bulk hi hka) (itm_bulk hi ha) (itm_bulk hj hc)
  have h2 := eqFFrag_ac b d (frgEq k) (by have := len_bulk b; omega) fun i hi hj => frgE_ac k _ _ (itm_bulk hi hkb) (itm_bulk hi hb) (itm_bulk hj hd)
  unfold queEq
  refine ac_enter 17 Tryz.func31 rfl rfl rfl rfl ?_
  intro s w he
  repeat' (first
 | refine aw_region ?_
 | refine awo_nil ?_
 | refine k_seq ?_
 | (apply aw_1
    conv => whnf
    refine ⟨?_, trivial⟩)
 | (apply s_pick_t rfl rfl
    · conv => lhs; whnf
    · conv => lhs; whnf
    · first | exact bT1 (by assumption) | exact bT2 (by assumption))
 | (apply s_pick_f rfl rfl
    · conv => lhs; whnf
    · conv => lhs; whnf
    · first | exact bF1 (by assumption) | exact bF2 (by assumption))
 | (apply s_1
    conv => whnf; arg 1; arg 4; arg 3; whnf
    refine ⟨?_, ?_⟩)
 | (apply s_call rfl
    · conv => lhs; whnf
    · conv => lhs; whnf
    · first | exact h1 | exact h2)
 | (apply s_box rfl rfl rfl rfl
    · conv => lhs; whnf; arg 1; whnf
    · rfl)
 | (apply s_wanted_val rfl
    · conv => lhs; whnf
    · conv => lhs; whnf
    · first | rfl | assumption
    · conv => lhs; whnf; arg 2; whnf)
 | (apply s_wanted_call rfl
    · conv => lhs; whnf
    · conv => lhs; whnf
    · first | rfl | assumption
    · conv => lhs; whnf
    · first | exact h1 | exact h2)
 | (apply s_skipU rfl
    · conv => lhs; whnf
    · conv => lhs; whnf
    · first | rfl | assumption)
 | (apply s_guard_valU rfl
    · conv => lhs; whnf
    · conv => lhs; whnf
    · conv => lhs; whnf; arg 2; whnf)
 | refine k_end_ret ?_
 | (refine ⟨_, by conv => lhs; whnf; arg 2; whnf, ?_⟩; conv => rhs; whnf)
 | exact trivial
 | intro hg)
  all_goals first | exact Tryz.underlying4 | (simp only [beq_true] at *; simp only [*, Bool.true_and, Bool.false_and, Bool.and_true, Bool.and_false])
end Go.Proofs.YthjiclhfhjdjpaaGreatDoor
