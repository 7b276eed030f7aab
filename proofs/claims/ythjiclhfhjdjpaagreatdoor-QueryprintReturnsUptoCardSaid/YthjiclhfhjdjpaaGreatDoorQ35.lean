import Derived.Test.YthjiclhfhjdjpaaGreatDoorQ34
set_option maxHeartbeats 8000000
set_option maxRecDepth 100000
set_option linter.unusedVariables false
set_option linter.unusedSimpArgs false
namespace Go.Proofs.YthjiclhfhjdjpaaGreatDoor
open Go.RowKit
set_option linter.unusedSectionVars false
attribute [local irreducible] wpList Calls Code.wp AW AWo OpOk seqK zx zAI loopK endK AC zm Yld Sub
attribute [local irreducible] ACB ACX ACE absLexG YldG absLexH
def av5 : D:=valD 2 5 [] [] []
def av0 : D:=valD 2 0 [] [] []
def ag5 : D:=argD [110] av5
def ag0 : D:=argD [110] av0
def nmT : List UInt8:=[110,97,109,101]
def se5 : D:=selD 1 [97] nmT [] [ag5] [] []
def se0 : D:=selD 1 [] nmT [] [ag0] [] []
def op5 : D:=opD 3 [] [] [se5]
def op0 : D:=opD 3 [] [] [se0]
theorem blank_ac : AC EN Tryz.prog 107 [.agg (cellsV Tryz.prog 12 84 av5)] (.agg (cellsV Tryz.prog 12 84 av0)):=by
 refine zG 15 Tryz.func107 rfl rfl rfl rfl ?_
 intro s w he
 repeat' (first
|apply zAW (WV av0) rfl rfl
 . conv => lhs; whnf; arg 2; whnf
 . repeat' (first | exact VLe.refl _ | exact VLe.nil _ | exact VLe.lit _ _ | exact VLe.own _ _ _ | apply VLe.agg | apply VLeL.cons | exact VLeL.nil)
|refine zA ?_
|refine zB ?_
|refine zK ?_
|apply aw_1
 conv => whnf
 refine ⟨?_,trivial⟩
|apply s_1
 conv => whnf; arg 1; arg 4; arg 3; whnf
 refine ⟨?_,?_⟩
|apply zAC rfl rfl rfl rfl
 . conv => lhs; whnf; arg 1; whnf
 . rfl
|apply zY rfl rfl rfl
 . conv => lhs; whnf
 . conv => lhs; whnf; arg 1; whnf
 . conv => lhs; whnf; arg 1; whnf
 . exact ⟨by kernel_rfl,by kernel_rfl⟩
 . rfl
|refine zM ?_
|refine zO ?_
|refine zC ?_
|refine ⟨_,by conv => lhs; whnf; arg 2; whnf,?_⟩; conv => rhs; whnf
|exact trivial)
 all_goals rfl
noncomputable def HBa (o : List D) (i : Int) : Vst 25:=stS 25 [(3,.own 3 86 o),(6,.sl 86 [ag5]),(7,.c (.int .i64 1)),(8,.c (.int .i64 i))] [(3,.tok 86 o.length)]
theorem zHp : AC EN Tryz.prog 182 [.sl 86 [ag5]] (.sl 86 [ag0]):=by
 refine zG 25 Tryz.func182 rfl rfl rfl rfl ?_
 intro s w he
 repeat' (first
|refine zA ?_
|refine zB ?_
|refine zK ?_
|apply aw_1
 conv => whnf
 refine ⟨?_,trivial⟩
|apply s_1
 conv => whnf; arg 1; arg 4; arg 3; whnf
 refine ⟨?_,?_⟩
|exact trivial)
 refine zW (Sub.own (t:=3) (e:=86) rfl rfl) ?_
 refine zV (fun j st => (j = 1 /\ Sub (cx EN Tryz.prog s w he) st (HBa [] 0)) \/ (j = 0 /\ Sub (cx EN Tryz.prog s w he) st (HBa [ag0] 1))) 1 (.inl ⟨rfl,Sub.live ⟨rfl,rfl,rfl,rfl,trivial⟩ ⟨rfl,trivial⟩⟩) ?_
 rintro j st (⟨rfl,hs⟩ | ⟨rfl,hs⟩)
 . refine zW hs ?_
   repeat' (first
|apply g_valW (WA ag0) rfl rfl
 . conv => lhs; whnf; arg 2; whnf
 . repeat' (first | exact VLe.refl _ | exact VLe.nil _ | exact VLe.lit _ _ | exact VLe.own _ _ _ | apply VLe.agg | apply VLeL.cons | exact VLeL.nil)
|apply zFB [ag0] rfl rfl
 . conv => lhs; whnf
 . first | exact zHb | (conv => lhs; whnf; arg 1; whnf)
 . rfl
 . rfl
 . repeat' (first | exact trivial | apply And.intro | rfl)
|apply zCY 10 ([(2,[5]),(4,[5])]) ([(8,[3])]) rfl (by kernel_rfl) (by kernel_rfl) (by kernel_rfl)
|apply zEB
|apply zEA rfl
 . conv => lhs; whnf
 . conv => lhs; whnf; arg 2; whnf
|apply g_call rfl
 . conv => lhs; whnf
 . conv => lhs; whnf
 . first | exact blank_ac
|apply g_app rfl rfl
 . conv => lhs; whnf
 . first | exact zHb | (conv => lhs; whnf; arg 1; whnf)
 . first | exact fun _ => rfl | (intro _; kernel_rfl)
 . conv => lhs; whnf
 . rfl
 . conv => lhs; whnf; arg 1; whnf
 . conv => lhs; whnf
|show inO _ _ = true; rfl
|refine zA ?_
|refine zB ?_
|refine zK ?_
|refine zb ?_
|apply aw_1
 conv => whnf
 refine ⟨?_,trivial⟩
|apply s_1
 conv => whnf; arg 1; arg 4; arg 3; whnf
 refine ⟨?_,?_⟩
|apply zY rfl rfl rfl
 . conv => lhs; whnf
 . conv => lhs; whnf; arg 1; whnf
 . conv => lhs; whnf; arg 1; whnf
 . exact ⟨by kernel_rfl,by kernel_rfl⟩
 . rfl
|exact trivial)
   . exact zH (Nat.lt_succ_self 0) (.inr ⟨rfl,Sub.live ⟨rfl,rfl,rfl,rfl,trivial⟩ ⟨rfl,trivial⟩⟩)
   all_goals decide
 . refine zW hs ?_
   repeat' (first
|refine zA ?_
|refine zB ?_
|refine zK ?_
|apply aw_1
 conv => whnf
 refine ⟨?_,trivial⟩
|apply s_1
 conv => whnf; arg 1; arg 4; arg 3; whnf
 refine ⟨?_,?_⟩
|apply zd rfl
 . conv => lhs; whnf
 . conv => lhs; whnf
 . first | exact sortArg_ac [ag0] (by decide) _
|refine zI ?_
|refine zE rfl ?_
|refine zF ?_
|refine zC ?_
|refine ⟨_,by conv => lhs; whnf; arg 2; whnf,?_⟩; conv => rhs; whnf
|exact trivial)
   all_goals first
    | rfl
    | decide
theorem zGY : AC EN Tryz.prog 106 [.sl 76 []] (.c (.slice none 0 0)):=by
 refine zG 58 Tryz.func106 rfl rfl rfl rfl ?_
 intro s w he
 repeat' (first
|refine zA ?_
|refine zB ?_
|refine zK ?_
|apply aw_1
 conv => whnf
 refine ⟨?_,trivial⟩
|apply s_1
 conv => whnf; arg 1; arg 4; arg 3; whnf
 refine ⟨?_,?_⟩
|exact trivial)
 all_goals first
  | decide
  | skip
 refine zV (fun _ st => Sub (cx EN Tryz.prog s w he) st (stS 58 [(3,.c (.slice none 0 0)),(9,.sl 76 []),(10,.c (.int .i64 0)),(11,.c (.int .i64 0))] [])) 0 (Sub.live ⟨rfl,rfl,rfl,rfl,trivial⟩ trivial) ?_
 rintro j st hs
 refine zW hs ?_
 repeat' (first
|refine zA ?_
|refine zB ?_
|refine zK ?_
|apply aw_1
 conv => whnf
 refine ⟨?_,trivial⟩
|apply s_1
 conv => whnf; arg 1; arg 4; arg 3; whnf
 refine ⟨?_,?_⟩
|apply zd rfl
 . conv => lhs; whnf
 . conv => lhs; whnf
 . first | exact zID _
|refine zI ?_
|refine zE rfl ?_
|refine zF ?_
|refine zC ?_
|refine ⟨_,by conv => lhs; whnf; arg 2; whnf,?_⟩; conv => rhs; whnf
|exact trivial)
 all_goals first
  | rfl
  | decide
noncomputable def HBs (o : List D) (i : Int) : Vst 58:=stS 58 [(3,.own 3 76 o),(9,.sl 76 [se5]),(10,.c (.int .i64 1)),(11,.c (.int .i64 i))] [(3,.tok 76 o.length)]
noncomputable def HBd : Vst 58:=stS 58 [(3,.own 3 76 []),(6,.bx 6 0),(9,.sl 76 [se5]),(10,.c (.int .i64 1)),(11,.c (.int .i64 0)),(29,.sl 150 []),(30,.c (.int .i64 0)),(31,.c (.int .i64 0))] [(3,.tok 76 ([] : List D).length),(6,.box 76 (cellsV Tryz.prog 12 76 se0))]
noncomputable def HBc : Vst 58:=stS 58 [(3,.own 3 76 []),(5,.bx 5 0),(9,.sl 76 [se5]),(10,.c (.int .i64 1)),(11,.c (.int .i64 0))] [(3,.tok 76 ([] : List D).length),(5,.box 76 (cellsV Tryz.prog 12 76 se5))]
theorem zGX : AC EN Tryz.prog 106 [.sl 76 [se5]] (.sl 76 [se0]):=by
 have h1:=zHp
 have h2:=zGY
 refine zG 58 Tryz.func106 rfl rfl rfl rfl ?_
 intro s w he
 repeat' (first
|refine zA ?_
|refine zB ?_
|refine zK ?_
|apply aw_1
 conv => whnf
 refine ⟨?_,trivial⟩
|apply s_1
 conv => whnf; arg 1; arg 4; arg 3; whnf
 refine ⟨?_,?_⟩
|exact trivial)
 refine zW (Sub.own (t:=3) (e:=76) rfl rfl) ?_
 refine zV (fun j st => (j = 1 /\ Sub (cx EN Tryz.prog s w he) st (HBs [] 0)) \/ (j = 0 /\ Sub (cx EN Tryz.prog s w he) st (HBs [se0] 1))) 1 (.inl ⟨rfl,Sub.live ⟨rfl,rfl,rfl,rfl,trivial⟩ ⟨rfl,trivial⟩⟩) ?_
 rintro j st (⟨rfl,hs⟩ | ⟨rfl,hs⟩)
 . refine zW hs ?_
   clear hs
   repeat' (first
|apply zDd ([(1,[5]),(3,[5]),(5,[5]),(7,[5]),(10,[5])]) ([(13,[6]),(14,[6])]) ([(13,6)]) rfl (by kernel_rfl) (by kernel_rfl) (by kernel_rfl) (by intro p hp; simp only [List.mem_cons,List.not_mem_nil,or_false] at hp; rcases hp with rfl <;> (repeat' (first | exact fresh_S rfl | refine fresh_put ?_ rfl | refine fresh_res ?_ rfl rfl)))
|apply h_nil
|apply h_valW ((WS se0)) rfl rfl
 . conv => lhs; whnf; arg 2; whnf
 . repeat' (first | exact VLe.refl _ | exact VLe.nil _ | exact VLe.lit _ _ | exact VLe.own _ _ _ | apply VLe.agg | apply VLeL.cons | exact VLeL.nil)
 . kernel_rfl
|apply zEn rfl rfl rfl rfl
 . conv => lhs; whnf; arg 1; whnf
 . rfl
 . rfl
 . kernel_rfl
|apply h_val rfl
 . conv => lhs; whnf
 . conv => lhs; whnf; arg 2; whnf
 . kernel_rfl
|apply zEm rfl rfl rfl
 . conv => lhs; whnf
 . rfl
 . conv => lhs; whnf; arg 1; whnf
 . conv => lhs; whnf; arg 1; whnf
 . exact ⟨by kernel_rfl,by kernel_rfl⟩
 . rfl
 . kernel_rfl
|apply h_call rfl
 . conv => lhs; whnf
 . conv => lhs; whnf
 . first | exact h1 | exact h2
 . kernel_rfl
|show inO _ _ = true; rfl
|apply zBA 5 (HBc) rfl
|refine zHN ?_
|refine zA ?_
|refine zB ?_
|refine zK ?_
|apply aw_1
 conv => whnf
 refine ⟨?_,trivial⟩
|apply s_1
 conv => whnf; arg 1; arg 4; arg 3; whnf
 refine ⟨?_,?_⟩
|apply zY rfl rfl rfl
 . conv => lhs; whnf
 . conv => lhs; whnf; arg 1; whnf
 . conv => lhs; whnf; arg 1; whnf
 . exact ⟨by kernel_rfl,by kernel_rfl⟩
 . rfl
|exact trivial)
   all_goals first
    | exact Sub.live ⟨rfl,rfl,rfl,rfl,rfl,trivial⟩ ⟨rfl,rfl,trivial⟩
    | decide
    | skip
   refine zV (fun _ st => Sub (cx EN Tryz.prog s w he) st HBd) 0 (Sub.live ⟨rfl,rfl,rfl,rfl,rfl,rfl,rfl,rfl,trivial⟩ ⟨rfl,rfl,trivial⟩) ?_
   rintro j2 st2 hs
   refine zW hs ?_
   clear hs
   repeat' (first
|apply zD7 [se0] rfl rfl
 . conv => lhs; whnf
 . first | exact zHZ | (conv => lhs; whnf; arg 1; whnf)
 . rfl
 . rfl
 . repeat' (first | exact trivial | apply And.intro | rfl)
|refine zA ?_
|refine zB ?_
|refine zK ?_
|refine zb ?_
|apply aw_1
 conv => whnf
 refine ⟨?_,trivial⟩
|apply s_1
 conv => whnf; arg 1; arg 4; arg 3; whnf
 refine ⟨?_,?_⟩
|apply zd rfl
 . conv => lhs; whnf
 . conv => lhs; whnf
 . first | exact sortDir_ac [] (by decide) _
|apply zDk rfl rfl
 . conv => lhs; whnf
 . first | exact zHZ | (conv => lhs; whnf; arg 1; whnf)
 . first | exact fun _ => rfl | (intro _; kernel_rfl)
 . conv => lhs; whnf
 . conv => lhs; whnf; arg 1; whnf
 . conv => lhs; whnf
|refine zI ?_
|refine zE rfl ?_
|refine zF ?_
|exact trivial)
   all_goals first
    | exact zH (Nat.lt_succ_self 0) (Or.inr ⟨rfl,Sub.live ⟨rfl,rfl,rfl,rfl,trivial⟩ ⟨rfl,trivial⟩⟩)
    | decide
    | skip
 . refine zW hs ?_
   clear hs
   repeat' (first
|refine zA ?_
|refine zB ?_
|refine zK ?_
|apply aw_1
 conv => whnf
 refine ⟨?_,trivial⟩
|apply s_1
 conv => whnf; arg 1; arg 4; arg 3; whnf
 refine ⟨?_,?_⟩
|apply zd rfl
 . conv => lhs; whnf
 . conv => lhs; whnf
 . first | exact sortSel_ac [se0] (by decide) _
|refine zI ?_
|refine zE rfl ?_
|refine zF ?_
|refine zC ?_
|refine ⟨_,by conv => lhs; whnf; arg 2; whnf,?_⟩; conv => rhs; whnf
|exact trivial)
   all_goals first
    | rfl
    | decide
noncomputable def HRc (l : List D) (n i : Int) : Vst 52:=stS 52 [(2,.c (.slice none 0 0)),(3,.bx 3 0),(10,.sl 76 l),(11,.c (.int .i64 n)),(12,.c (.int .i64 i))] [(3,.box 41 [.sl 57 [op5],.sl 116 []])]
theorem reach0_ac : AC EN Tryz.prog 111 [.agg [.sl 57 [op5],.sl 116 []],.sl 76 [],.c (.slice none 0 0)] (.c (.slice none 0 0)):=by
 refine zG 52 Tryz.func111 rfl rfl rfl rfl ?_
 intro s w he
 repeat' (first
|refine zA ?_
|refine zB ?_
|refine zK ?_
|apply aw_1
 conv => whnf
 refine ⟨?_,trivial⟩
|apply s_1
 conv => whnf; arg 1; arg 4; arg 3; whnf
 refine ⟨?_,?_⟩
|apply zAC rfl rfl rfl rfl
 . conv => lhs; whnf; arg 1; whnf
 . rfl
|exact trivial)
 all_goals first
  | decide
  | skip
 refine zV (fun _ st => Sub (cx EN Tryz.prog s w he) st (HRc [] 0 0)) 0 (Sub.live ⟨rfl,rfl,rfl,rfl,rfl,trivial⟩ ⟨rfl,trivial⟩) ?_
 rintro j st hs
 refine zW hs ?_
 clear hs
 repeat' (first
|refine zA ?_
|refine zB ?_
|refine zK ?_
|apply aw_1
 conv => whnf
 refine ⟨?_,trivial⟩
|apply s_1
 conv => whnf; arg 1; arg 4; arg 3; whnf
 refine ⟨?_,?_⟩
|refine zI ?_
|refine zE rfl ?_
|refine zF ?_
|refine zC ?_
|refine ⟨_,by conv => lhs; whnf; arg 2; whnf,?_⟩; conv => rhs; whnf
|exact trivial)
 all_goals first
  | rfl
  | decide
theorem reach1_ac : AC EN Tryz.prog 111 [.agg [.sl 57 [op5],.sl 116 []],.sl 76 [se5],.c (.slice none 0 0)] (.c (.slice none 0 0)):=by
 have h1:=reach0_ac
 refine zG 52 Tryz.func111 rfl rfl rfl rfl ?_
 intro s w he
 repeat' (first
|refine zA ?_
|refine zB ?_
|refine zK ?_
|apply aw_1
 conv => whnf
 refine ⟨?_,trivial⟩
|apply s_1
 conv => whnf; arg 1; arg 4; arg 3; whnf
 refine ⟨?_,?_⟩
|apply zAC rfl rfl rfl rfl
 . conv => lhs; whnf; arg 1; whnf
 . rfl
|exact trivial)
 all_goals first
  | decide
  | skip
 refine zV (fun j st => (j = 1 /\ Sub (cx EN Tryz.prog s w he) st (HRc [se5] 1 0)) \/ (j = 0 /\ Sub (cx EN Tryz.prog s w he) st (HRc [se5] 1 1))) 1 (.inl ⟨rfl,Sub.live ⟨rfl,rfl,rfl,rfl,rfl,trivial⟩ ⟨rfl,trivial⟩⟩) ?_
 rintro j st (⟨rfl,hs⟩ | ⟨rfl,hs⟩)
 . refine zW hs ?_
   clear hs
   repeat' (first
|refine zA ?_
|refine zB ?_
|refine zK ?_
|apply aw_1
 conv => whnf
 refine ⟨?_,trivial⟩
|apply s_1
 conv => whnf; arg 1; arg 4; arg 3; whnf
 refine ⟨?_,?_⟩
|apply zd rfl
 . conv => lhs; whnf
 . conv => lhs; whnf
 . first | exact h1
|apply zY rfl rfl rfl
 . conv => lhs; whnf
 . conv => lhs; whnf; arg 1; whnf
 . conv => lhs; whnf; arg 1; whnf
 . exact ⟨by kernel_rfl,by kernel_rfl⟩
 . rfl
|refine zI ?_
|refine zE rfl ?_
|exact trivial)
   . exact zH (Nat.lt_succ_self 0) (.inr ⟨rfl,Sub.live ⟨rfl,rfl,rfl,rfl,rfl,trivial⟩ ⟨rfl,trivial⟩⟩)
   all_goals decide
 . refine zW hs ?_
   clear hs
   repeat' (first
|refine zA ?_
|refine zB ?_
|refine zK ?_
|apply aw_1
 conv => whnf
 refine ⟨?_,trivial⟩
|apply s_1
 conv => whnf; arg 1; arg 4; arg 3; whnf
 refine ⟨?_,?_⟩
|refine zI ?_
|refine zE rfl ?_
|refine zF ?_
|refine zC ?_
|refine ⟨_,by conv => lhs; whnf; arg 2; whnf,?_⟩; conv => rhs; whnf
|exact trivial)
   all_goals first
    | rfl
    | decide
theorem insStr_ac : AC EN Tryz.prog 268 [.c (.slice none 0 0),.c (.int .i64 0),.c (.int .i64 0)] (.tup []):=by
 refine zG 49 Tryz.func268 rfl rfl rfl rfl ?_
 intro s w he
 repeat' (first
|refine zA ?_
|refine zB ?_
|refine zK ?_
|apply aw_1
 conv => whnf
 refine ⟨?_,trivial⟩
|apply s_1
 conv => whnf; arg 1; arg 4; arg 3; whnf
 refine ⟨?_,?_⟩
|exact trivial)
 . refine zV (fun _ st => Sub (cx EN Tryz.prog s w he) st (stS 49 [(2,.c (.int .i64 0)),(6,.c (.int .i64 (0 + 1)))] [])) 0 (Sub.live ⟨rfl,rfl,trivial⟩ trivial) ?_
   rintro j st hs
   refine zW hs ?_
   repeat' (first
|refine zA ?_
|refine zB ?_
|refine zK ?_
|apply aw_1
 conv => whnf
 refine ⟨?_,trivial⟩
|apply s_1
 conv => whnf; arg 1; arg 4; arg 3; whnf
 refine ⟨?_,?_⟩
|refine zI ?_
|refine zE rfl ?_
|refine zF ?_
|refine zCQ ?_
|exact trivial)
   all_goals rfl
 . decide
theorem pdq_ac (n : Int) : AC EN Tryz.prog 195 [.c (.slice none 0 0),.c (.int .i64 0),.c (.int .i64 0),.c (.int .i64 n)] (.tup []):=by
 have h1:=insStr_ac
 refine zG 134 Tryz.func195 rfl rfl rfl rfl ?_
 intro s w he
 repeat' (first
|refine zA ?_
|refine zB ?_
|refine zK ?_
|apply aw_1
 conv => whnf
 refine ⟨?_,trivial⟩
|apply s_1
 conv => whnf; arg 1; arg 4; arg 3; whnf
 refine ⟨?_,?_⟩
|exact trivial)
 refine zV (fun _ st => Sub (cx EN Tryz.prog s w he) st (stS 134 [(0,.c (.slice none 0 0)),(1,.c (.int .i64 0)),(2,.c (.int .i64 0)),(3,.c (.int .i64 n))] [])) 0 (Sub.live ⟨rfl,rfl,rfl,rfl,trivial⟩ trivial) ?_
 rintro j st hs
 refine zW hs ?_
 clear hs
 repeat' (first
|refine zA ?_
|refine zB ?_
|refine zK ?_
|apply aw_1
 conv => whnf
 refine ⟨?_,trivial⟩
|apply s_1
 conv => whnf; arg 1; arg 4; arg 3; whnf
 refine ⟨?_,?_⟩
|apply zd rfl
 . conv => lhs; whnf
 . conv => lhs; whnf
 . first | exact h1
|refine zM ?_
|refine zO ?_
|refine zl ?_
|refine zC ?_
|exact trivial)
 all_goals first
  | rfl
  | decide
theorem len64_ac : AC EN Tryz.prog 278 [.c (.int .u64 0)] (.c (.int .i64 0)):=by
 refine zG 25 Tryz.func278 rfl rfl rfl rfl ?_
 intro s w he
 repeat' (first
|refine zA ?_
|refine zB ?_
|refine zK ?_
|apply aw_1
 conv => whnf
 refine ⟨?_,trivial⟩
|apply s_1
 conv => whnf; arg 1; arg 4; arg 3; whnf
 refine ⟨?_,?_⟩
|refine zC ?_
|refine ⟨_,by conv => lhs; whnf; arg 2; whnf,?_⟩; conv => rhs; whnf
|exact trivial)
 all_goals first
  | rfl
  | decide
  | exact ⟨by kernel_rfl,Int.le_refl _,of_decide_eq_true (by kernel_rfl)⟩
theorem bitsLen_ac : AC EN Tryz.prog 196 [.c (.int .u64 0)] (.c (.int .i64 0)):=by
 have h1:=len64_ac
 refine zG 8 Tryz.func196 rfl rfl rfl rfl ?_
 intro s w he
 repeat' (first
|refine zA ?_
|refine zB ?_
|refine zK ?_
|apply aw_1
 conv => whnf
 refine ⟨?_,trivial⟩
|apply s_1
 conv => whnf; arg 1; arg 4; arg 3; whnf
 refine ⟨?_,?_⟩
|apply zd rfl
 . conv => lhs; whnf
 . conv => lhs; whnf
 . first | exact h1
|refine zC ?_
|refine ⟨_,by conv => lhs; whnf; arg 2; whnf,?_⟩; conv => rhs; whnf
|exact trivial)
 all_goals first
  | rfl
  | decide
theorem sortStr_ac : AC EN Tryz.prog 112 [.c (.slice none 0 0)] (.tup []):=by
 have h1:=bitsLen_ac
 have h2:=pdq_ac 0
 refine zG 11 Tryz.func112 rfl rfl rfl rfl ?_
 intro s w he
 repeat' (first
|refine zA ?_
|refine zB ?_
|refine zK ?_
|apply aw_1
 conv => whnf
 refine ⟨?_,trivial⟩
|apply s_1
 conv => whnf; arg 1; arg 4; arg 3; whnf
 refine ⟨?_,?_⟩
|apply zd rfl
 . conv => lhs; whnf
 . conv => lhs; whnf
 . first | exact h1 | exact h2
|refine zCQ ?_
|exact trivial)
 all_goals first
  | rfl
  | decide
noncomputable def WQ (o : List D) : V:=.agg [.sl 57 o,.sl 116 []]
noncomputable def HSi : Vst 112:=stS 112 [(2,.bx 2 0),(4,.bx 4 0),(5,.bx 5 0),(6,.bx 6 0),(39,.sl 88 []),(40,.c (.int .i64 0)),(41,.c (.int .i64 0))] [(2,.box 41 [.sl 57 [op5],.sl 116 []]),(4,.box 41 [.c (.slice none 0 0),.c (.slice none 0 0)]),(5,.box 57 (cellsV Tryz.prog 12 57 op5)),(6,.box 57 (cellsV Tryz.prog 12 57 op0))]
noncomputable def HSj : Vst 112:=stS 112 [(4,.bx 4 0),(10,.bx 10 0),(80,.c (.slice none 0 0)),(81,.c (.int .i64 0)),(82,.c (.int .i64 0))] [(4,.box 41 [.c (.slice none 0 0),.c (.slice none 0 0)]),(10,.box 41 [.sl 57 [op0],.sl 116 []])]
noncomputable def HSc : Vst 112:=stS 112 [(2,.bx 2 0),(4,.bx 4 0),(5,.bx 5 0)] [(2,.box 41 [.sl 57 [op5],.sl 116 []]),(4,.box 41 [.c (.slice none 0 0),.c (.slice none 0 0)]),(5,.box 57 (cellsV Tryz.prog 12 57 op5))]
theorem sign_ac : AC EN Tryz.prog 54 [.agg [.sl 57 [op5],.sl 116 []],.c (.int .i64 0)] (.agg [.sl 57 [op0],.sl 116 []]):=by
 have h1:=zGX
 have h2:=reach1_ac
 have h3:=sortStr_ac
 refine zG 112 Tryz.func54 rfl rfl rfl rfl ?_
 intro s w he
 repeat' (first
|apply zDd ([(1,[5]),(3,[5]),(5,[5])]) ([(8,[6]),(9,[6])]) ([(8,6)]) rfl (by kernel_rfl) (by kernel_rfl) (by kernel_rfl) (by intro p hp; simp only [List.mem_cons,List.not_mem_nil,or_false] at hp; rcases hp with rfl <;> (repeat' (first | exact fresh_S rfl | refine fresh_put ?_ rfl | refine fresh_res ?_ rfl rfl)))
|apply h_nil
|apply h_valW ((WO op0)) rfl rfl
 . conv => lhs; whnf; arg 2; whnf
 . repeat' (first | exact VLe.refl _ | exact VLe.nil _ | exact VLe.lit _ _ | exact VLe.own _ _ _ | apply VLe.agg | apply VLeL.cons | exact VLeL.nil)
 . kernel_rfl
|apply zEn rfl rfl rfl rfl
 . conv => lhs; whnf; arg 1; whnf
 . rfl
 . rfl
 . kernel_rfl
|apply h_val rfl
 . conv => lhs; whnf
 . conv => lhs; whnf; arg 2; whnf
 . kernel_rfl
|apply zEm rfl rfl rfl
 . conv => lhs; whnf
 . rfl
 . conv => lhs; whnf; arg 1; whnf
 . conv => lhs; whnf; arg 1; whnf
 . exact ⟨by kernel_rfl,by kernel_rfl⟩
 . rfl
 . kernel_rfl
|apply h_call rfl
 . conv => lhs; whnf
 . conv => lhs; whnf
 . first | exact h1
 . kernel_rfl
|show inO _ _ = true; rfl
|apply zBA 4 (HSc) rfl
|refine zHN ?_
|refine zA ?_
|refine zB ?_
|refine zK ?_
|apply aw_1
 conv => whnf
 refine ⟨?_,trivial⟩
|apply s_1
 conv => whnf; arg 1; arg 4; arg 3; whnf
 refine ⟨?_,?_⟩
|apply zAC rfl rfl rfl rfl
 . conv => lhs; whnf; arg 1; whnf
 . rfl
|apply zY rfl rfl rfl
 . conv => lhs; whnf
 . conv => lhs; whnf; arg 1; whnf
 . conv => lhs; whnf; arg 1; whnf
 . exact ⟨by kernel_rfl,by kernel_rfl⟩
 . rfl
|exact trivial)
 all_goals first
  | exact Sub.live ⟨rfl,rfl,rfl,trivial⟩ ⟨rfl,rfl,rfl,trivial⟩
  | decide
  | skip
 refine zV (fun _ st => Sub (cx EN Tryz.prog s w he) st HSi) 0 (Sub.live ⟨rfl,rfl,rfl,rfl,rfl,rfl,rfl,trivial⟩ ⟨rfl,rfl,rfl,rfl,trivial⟩) ?_
 rintro j st hs
 refine zW hs ?_
 clear hs
 repeat' (first
|apply zD7 [op0] rfl rfl
 . conv => lhs; whnf
 . first | exact zJm | (conv => lhs; whnf; arg 1; whnf)
 . rfl
 . rfl
 . repeat' (first | exact trivial | apply And.intro | rfl)
|apply zAW (WQ [op0]) rfl rfl
 . conv => lhs; whnf; arg 2; whnf
 . repeat' (first | exact VLe.refl _ | exact VLe.nil _ | exact VLe.lit _ _ | exact VLe.own _ _ _ | apply VLe.agg | apply VLeL.cons | exact VLeL.nil)
|refine zA ?_
|refine zB ?_
|refine zK ?_
|apply aw_1
 conv => whnf
 refine ⟨?_,trivial⟩
|apply s_1
 conv => whnf; arg 1; arg 4; arg 3; whnf
 refine ⟨?_,?_⟩
|apply zd rfl
 . conv => lhs; whnf
 . conv => lhs; whnf
 . first | exact sortVar_ac [] (by decide) _ | exact h2 | exact h3
|apply zY rfl rfl rfl
 . conv => lhs; whnf
 . conv => lhs; whnf; arg 1; whnf
 . conv => lhs; whnf; arg 1; whnf
 . exact ⟨by kernel_rfl,by kernel_rfl⟩
 . rfl
|refine zI ?_
|refine zE rfl ?_
|refine zF ?_
|exact trivial)
 all_goals first
  | decide
  | skip
 refine zV (fun _ st => Sub (cx EN Tryz.prog s w he) st HSj) 0 (Sub.live ⟨rfl,rfl,rfl,rfl,rfl,trivial⟩ ⟨rfl,rfl,trivial⟩) ?_
 rintro j2 st2 hs
 refine zW hs ?_
 clear hs
 repeat' (first
|refine zA ?_
|refine zB ?_
|refine zK ?_
|apply aw_1
 conv => whnf
 refine ⟨?_,trivial⟩
|apply s_1
 conv => whnf; arg 1; arg 4; arg 3; whnf
 refine ⟨?_,?_⟩
|apply zY rfl rfl rfl
 . conv => lhs; whnf
 . conv => lhs; whnf; arg 1; whnf
 . conv => lhs; whnf; arg 1; whnf
 . exact ⟨by kernel_rfl,by kernel_rfl⟩
 . rfl
|refine zI ?_
|refine zE rfl ?_
|refine zF ?_
|refine zC ?_
|refine ⟨_,by conv => lhs; whnf; arg 2; whnf,?_⟩; conv => rhs; whnf
|exact trivial)
 all_goals first
  | rfl
  | decide
theorem cmpStr1E (a b : ByteArray) : AC EN Tryz.prog 335 [.c (.string a),.c (.string b)] (.c (.int .i64 (Lib.compareBytes (tx a) (tx b)))):=
 ac_of fun s w us hus _ => by
  obtain ⟨u,u2,rfl,h1,h2⟩:=zIM hus
  rw [rel] at h1 h2
  obtain ⟨rfl,-⟩:=h1
  obtain ⟨rfl,-⟩:=h2
  exact ⟨i64_small (zFc _ _),(cmpStrC a b w).mono fun e w' h => ⟨h.1,by rw [h.2]; exact Below.refl _ _⟩⟩
theorem cmpStr_acE (a b : ByteArray) : AC EN Tryz.prog 294 [.c (.string a),.c (.string b)] (.c (.int .i64 (Lib.compareBytes (tx a) (tx b)))):=by
 have h1:=cmpStr1E a b
 refine zG 8 Tryz.func294 rfl rfl rfl rfl ?_
 intro s w he
 repeat' (first
|refine zA ?_
|refine zB ?_
|refine zK ?_
|apply aw_1
 conv => whnf
 refine ⟨?_,trivial⟩
|apply s_1
 conv => whnf; arg 1; arg 4; arg 3; whnf
 refine ⟨?_,?_⟩
|apply zd rfl
 . conv => lhs; whnf
 . conv => lhs; whnf
 . first | exact h1
|refine zC ?_
|refine ⟨_,by conv => lhs; whnf; arg 2; whnf,?_⟩; conv => rhs; whnf
|exact trivial)
theorem nan_acE (a : Int) : AC EN Tryz.prog 262 [.c (.int .i64 a)] (.c (.bool false)):=by
 refine zG 6 Tryz.func262 rfl rfl rfl rfl ?_
 intro s w he
 repeat' (first
|refine zA ?_
|refine zB ?_
|refine zK ?_
|apply aw_1
 conv => whnf
 refine ⟨?_,trivial⟩
|apply s_1
 conv => whnf; arg 1; arg 4; arg 3; whnf
 refine ⟨?_,?_⟩
|refine zC ?_
|refine ⟨_,by conv => lhs; whnf; arg 2; whnf,?_⟩; conv => rhs; whnf
|exact trivial)
 simp
theorem cmpInt_acE (a b : Int) : AC EN Tryz.prog 189 [.c (.int .i64 a),.c (.int .i64 b)] (.c (.int .i64 (ordI a b))):=by
 have h1:=nan_acE a
 have h2:=nan_acE b
 refine zG 20 Tryz.func189 rfl rfl rfl rfl ?_
 intro s w he
 repeat' (first
|refine zA ?_
|refine zB ?_
|refine zK ?_
|apply aw_1
 conv => whnf
 refine ⟨?_,trivial⟩
|apply s_1
 conv => whnf; arg 1; arg 4; arg 3; whnf
 refine ⟨?_,?_⟩
|apply zd rfl
 . conv => lhs; whnf
 . conv => lhs; whnf
 . first | exact h1 | exact h2
|refine zP (by conv => lhs; whnf) ?_ ?_ <;> intro hb
|refine zM ?_
|refine zC ?_
|refine ⟨_,by conv => lhs; whnf; arg 2; whnf,?_⟩; conv => rhs; whnf
|exact trivial)
 all_goals (simp only [decide_eq_true_eq,decide_eq_false_iff_not] at *; unfold ordI)
 . rw [if_pos (by omega)]
 . rw [if_neg (by omega),if_pos (by omega)]
 . rw [if_neg (by omega),if_neg (by omega)]
theorem key_acE (x : D) (i : Nat) : AC EN Tryz.prog 295 [.agg (cellsV Tryz.prog 12 84 x),.c (.int .i64 i)] (.c (.string (keyD x i))):=by
 refine zG 15 Tryz.func295 rfl rfl rfl rfl ?_
 intro s w he
 repeat' (first
|refine zA ?_
|refine zB ?_
|refine zK ?_
|apply aw_1
 conv => whnf
 refine ⟨?_,trivial⟩
|apply s_1
 conv => whnf; arg 1; arg 4; arg 3; whnf
 refine ⟨?_,?_⟩
|apply zAC rfl rfl rfl rfl
 . conv => lhs; whnf; arg 1; whnf
 . rfl
|refine zP (by conv => lhs; whnf) ?_ ?_ <;> intro hb
|refine zM ?_
|refine zC ?_
|refine ⟨_,by conv => lhs; whnf; arg 2; whnf,?_⟩; conv => rhs; whnf
|exact trivial)
 . have hb : decide ((i : Int) < (x.f 4).l.length) = true:=hb
   unfold keyD
   rw [if_pos (by simpa using hb)]
   rfl
 . have hb : decide ((i : Int) < (x.f 4).l.length) = true:=hb
   show 0 <= (i : Int) /\ (i : Int) < (x.f 4).l.length
   simp at hb; omega
 . have hb : decide ((i : Int) < (x.f 4).l.length) = false:=hb
   unfold keyD
   rw [if_neg (by simpa using hb)]
theorem zJy : ∀ (k : Nat) (a b : D),Dp k a -> Dp k b -> bulkD a <= 1000000000 -> bulkD b <= 1000000000 -> AC EN Tryz.prog 229 [.agg (cellsV Tryz.prog 12 84 a),.agg (cellsV Tryz.prog 12 84 b)] (.c (.int .i64 (cmpV k a b)))
 | 0,a,b,h,_,_,_ => h.elim
 | k + 1,a,b,h1,h2,hb1,hb2 => by
   have i1:=zIo hb1
   have i2:=zIo hb2
   have l1:=i1.items
   have l2:=i2.items
   have ih:=fun i (hi : i < (a.f 3).l.length) (hj : i < (b.f 3).l.length) => zJy k _ _ (h1 i hi) (h2 i hj) (by have:=i1.at_ i hi; omega) (by have:=i2.at_ i hj; omega)
   have c1:=fun i => key_acE a i
   have c2:=fun i => key_acE b i
   have c3:=fun x y => cmpStr_acE x y
   have c4:=fun x y => cmpInt_acE x y
   refine zG 84 Tryz.func229 rfl rfl rfl rfl ?_
   intro s w he
   repeat' (first
|refine zA ?_
|refine zB ?_
|refine zK ?_
|apply aw_1
 conv => whnf
 refine ⟨?_,trivial⟩
|apply s_1
 conv => whnf; arg 1; arg 4; arg 3; whnf
 refine ⟨?_,?_⟩
|apply zAC rfl rfl rfl rfl
 . conv => lhs; whnf; arg 1; whnf
 . rfl
|exact trivial)
   refine zV (fun j st => (j = 1 /\ Sub (cx EN Tryz.prog s w he) st (HV0 a b)) \/ (j = 0 /\ Sub (cx EN Tryz.prog s w he) st (HV1 (cmpV (k + 1) a b)))) 1 (.inl ⟨rfl,?_⟩) ?_
   . exact Sub.live ⟨rfl,rfl,rfl,trivial⟩ ⟨rfl,rfl,trivial⟩
   . rintro j st (⟨rfl,hs2⟩ | ⟨rfl,hs2⟩)
     . refine zW hs2 ?_
       have hC : cmpV (k + 1) a b = if (a.f 0).n != (b.f 0).n then ordI (a.f 0).n (b.f 0).n
        else if (a.f 1).n != (b.f 1).n then ordI (a.f 1).n (b.f 1).n
        else if !((a.f 2).s.toList == (b.f 2).s.toList) then Lib.compareBytes (tx (a.f 2).s) (tx (b.f 2).s)
        else zIj (cmpV k) a b (min (a.f 3).l.length (b.f 3).l.length) 0:=rfl
       generalize cmpV (k + 1) a b = R at hC |-
       repeat' (first
|refine zA ?_
|refine zB ?_
|refine zK ?_
|refine zb ?_
|apply aw_1
 conv => whnf
 refine ⟨?_,trivial⟩
|apply s_1
 conv => whnf; arg 1; arg 4; arg 3; whnf
 refine ⟨?_,?_⟩
|apply zd rfl
 . conv => lhs; whnf
 . conv => lhs; whnf
 . first | exact c1 _ | exact c2 _ | exact c3 _ _ | exact c4 _ _
|refine zP (by conv => lhs; whnf) ?_ ?_ <;> intro hb
|refine zI ?_
|refine zE rfl ?_
|refine zCR rfl ?_
|refine zC2 ?_
|refine zF ?_
|refine zC ?_
|refine ⟨_,by conv => lhs; whnf; arg 2; whnf,?_⟩; conv => rhs; whnf
|exact trivial)
       . have e1 : ((a.f 0).n != (b.f 0).n) = true:=by assumption
         rw [hC,if_pos e1]
       . have e1 : ((a.f 0).n != (b.f 0).n) = false:=by assumption
         have e2 : ((a.f 1).n != (b.f 1).n) = true:=by assumption
         rw [hC,if_neg (by rw [e1]; decide),if_pos e2]
       . have e1 : ((a.f 0).n != (b.f 0).n) = false:=by assumption
         have e2 : ((a.f 1).n != (b.f 1).n) = false:=by assumption
         have e3 : (!((a.f 2).s.toList == (b.f 2).s.toList)) = true:=by assumption
         rw [hC,if_neg (by rw [e1]; decide),if_neg (by rw [e2]; decide),if_pos e3]
       . have e1 : ((a.f 0).n != (b.f 0).n) = false:=by assumption
         have e2 : ((a.f 1).n != (b.f 1).n) = false:=by assumption
         have e3 : (!((a.f 2).s.toList == (b.f 2).s.toList)) = false:=by assumption
         rw [if_neg (by rw [e1]; decide),if_neg (by rw [e2]; decide),if_neg (by rw [e3]; decide)] at hC
         refine zV (fun j st => ∃ i,i + j = min (a.f 3).l.length (b.f 3).l.length /\ R = zIj (cmpV k) a b j i /\ Sub (cx EN Tryz.prog s w he) st (HVI a b i)) (min (a.f 3).l.length (b.f 3).l.length) ⟨0,by omega,hC,?_⟩ ?_
         . refine Sub.live ⟨rfl,rfl,rfl,?_,rfl,trivial⟩ ⟨rfl,rfl,trivial⟩
           show V.c (.int .i64 (if ((b.f 3).l.length : Int) < (a.f 3).l.length then ((b.f 3).l.length : Int) else ((a.f 3).l.length : Int))) = _
           rw [min_int]
         . clear e1 e2 e3
           rintro j st ⟨i,hij,hR,hs2⟩
           refine zW hs2 ?_
           have ih2:=fun (h : decide ((i : Int) < ((min (a.f 3).l.length (b.f 3).l.length : Nat) : Int)) = true) => ih i (by simp at h; omega) (by simp at h; omega)
           repeat' (first
|refine zA ?_
|refine zB ?_
|refine zK ?_
|refine zb ?_
|apply aw_1
 conv => whnf
 refine ⟨?_,trivial⟩
|apply s_1
 conv => whnf; arg 1; arg 4; arg 3; whnf
 refine ⟨?_,?_⟩
|apply zd rfl
 . conv => lhs; whnf
 . conv => lhs; whnf
 . first | exact c1 i | exact c2 i | exact c3 _ _ | exact ih2 ‹_› | exact c4 _ _
|apply zAb (by kernel_rfl) (by kernel_rfl)
|apply zCE
|apply zCD rfl
 . conv => lhs; whnf
 . conv => lhs; whnf; arg 2; whnf
|apply zDC rfl
 . conv => lhs; whnf
 . conv => lhs; whnf
 . first | exact c1 i | exact c2 i | exact c3 _ _ | exact ih2 ‹_› | exact c4 _ _
|exact zr
|exact zAQ
|exact (1000000 : Nat)
|refine zP (by conv => lhs; whnf) ?_ ?_ <;> intro hb
|refine zI ?_
|refine zE rfl ?_
|refine zCR rfl ?_
|refine zC2 ?_
|refine zF ?_
|refine zC ?_
|refine ⟨_,by conv => lhs; whnf; arg 2; whnf,?_⟩; conv => rhs; whnf
|exact trivial)
           . have h0 : decide ((i : Int) < ((min (a.f 3).l.length (b.f 3).l.length : Nat) : Int)) = true:=by assumption
             have h1 : (Lib.compareBytes (tx (keyD a i)) (tx (keyD b i)) != 0) = true:=by assumption
             obtain ⟨j,rfl⟩ : ∃ q,j = q + 1:=⟨j - 1,by simp at h0; omega⟩
             rw [hR,zIj,if_pos h1]
           . have h0 : decide ((i : Int) < ((min (a.f 3).l.length (b.f 3).l.length : Nat) : Int)) = true:=by assumption
             have h1 : (Lib.compareBytes (tx (keyD a i)) (tx (keyD b i)) != 0) = false:=by assumption
             have h2 : (cmpV k (gD (a.f 3).l i) (gD (b.f 3).l i) != 0) = true:=by assumption
             obtain ⟨j,rfl⟩ : ∃ q,j = q + 1:=⟨j - 1,by simp at h0; omega⟩
             rw [hR,zIj,if_neg (by rw [h1]; decide),if_pos h2]
           . have h0 : decide ((i : Int) < ((min (a.f 3).l.length (b.f 3).l.length : Nat) : Int)) = true:=by assumption
             have h1 : (Lib.compareBytes (tx (keyD a i)) (tx (keyD b i)) != 0) = false:=by assumption
             have h2 : (cmpV k (gD (a.f 3).l i) (gD (b.f 3).l i) != 0) = false:=by assumption
             obtain ⟨j,rfl⟩ : ∃ q,j = q + 1:=⟨j - 1,by simp at h0; omega⟩
             rw [zIj,if_neg (by rw [h1]; decide),if_neg (by rw [h2]; decide)] at hR
             exact zH (j':=j) (by omega) ⟨i + 1,by omega,hR,Sub.live ⟨rfl,rfl,rfl,rfl,rfl,trivial⟩ ⟨rfl,rfl,trivial⟩⟩
           . exact zT (by omega)
           . have h0 : decide ((i : Int) < ((min (a.f 3).l.length (b.f 3).l.length : Nat) : Int)) = true:=by assumption
             show 0 <= (i : Int) /\ (i : Int) < (b.f 3).l.length
             simp at h0; omega
           . have h0 : decide ((i : Int) < ((min (a.f 3).l.length (b.f 3).l.length : Nat) : Int)) = true:=by assumption
             show 0 <= (i : Int) /\ (i : Int) < (a.f 3).l.length
             simp at h0; omega
           . have h0 : decide ((i : Int) < ((min (a.f 3).l.length (b.f 3).l.length : Nat) : Int)) = false:=by assumption
             obtain rfl : j = 0:=by simp at h0; omega
             refine zH (j':=0) (by omega) (.inr ⟨rfl,Sub.live ⟨?_,rfl,trivial⟩ trivial⟩)
             rw [hR]; rfl
           . exact zT (by omega)
     . refine zW hs2 ?_
       repeat' (first
|refine zA ?_
|refine zB ?_
|refine zK ?_
|apply aw_1
 conv => whnf
 refine ⟨?_,trivial⟩
|apply s_1
 conv => whnf; arg 1; arg 4; arg 3; whnf
 refine ⟨?_,?_⟩
|refine zI ?_
|refine zE rfl ?_
|refine zC2 ?_
|refine zF ?_
|refine zC ?_
|refine ⟨_,by conv => lhs; whnf; arg 2; whnf,?_⟩; conv => rhs; whnf
|exact trivial)
theorem same_valE (k : Nat) (a b : D) (h1 : Dp k a) (h2 : Dp k b) (hb1 : bulkD a <= 1000000000) (hb2 : bulkD b <= 1000000000) : AC EN Tryz.prog 154 [.agg (cellsV Tryz.prog 12 84 a),.agg (cellsV Tryz.prog 12 84 b)] (.c (.bool (cmpV k a b == 0))):=by
 have hc:=zJy k a b h1 h2 hb1 hb2
 refine zG 9 Tryz.func154 rfl rfl rfl rfl ?_
 intro s w he
 repeat' (first
|refine zA ?_
|refine zB ?_
|refine zK ?_
|apply aw_1
 conv => whnf
 refine ⟨?_,trivial⟩
|apply s_1
 conv => whnf; arg 1; arg 4; arg 3; whnf
 refine ⟨?_,?_⟩
|apply zd rfl
 . conv => lhs; whnf
 . conv => lhs; whnf
 . first | exact hc
|apply zAC rfl rfl rfl rfl
 . conv => lhs; whnf; arg 1; whnf
 . rfl
|refine zC ?_
|refine ⟨_,by conv => lhs; whnf; arg 2; whnf,?_⟩; conv => rhs; whnf
|exact trivial)
def eqL (f : D -> D -> Bool) (l m : List D) : Bool:=(l.length == m.length) && (List.range l.length).all fun i => f (gD l i) (gD m i)
theorem zEt {f : D -> D -> Bool} {l m : List D} (h : ((l.length : Int) != (m.length : Int)) = true) : eqL f l m = false:=by
 have : ¬ l.length = m.length:=by simp at h; omega
 simp [eqL,this]
theorem zC6 {l m : List D} (h : ((l.length : Int) != (m.length : Int)) = false) : l.length = m.length:=by simp at h; omega
theorem zC7 {f : D -> D -> Bool} {l m : List D} {i : Nat} (hi : i < l.length) (h : f (gD l i) (gD m i) = false) : eqL f l m = false:=by
 unfold eqL
 rw [Bool.and_eq_false_iff]
 right
 rw [List.all_eq_false]
 exact ⟨i,List.mem_range.2 hi,by simp [h]⟩
theorem zC8 {f : D -> D -> Bool} {l m : List D} (hl : l.length = m.length) (h : ∀ i,i < l.length -> f (gD l i) (gD m i) = true) : eqL f l m = true:=by
 unfold eqL
 rw [Bool.and_eq_true,List.all_eq_true]
 exact ⟨by simp [hl],fun i hi => h i (List.mem_range.1 hi)⟩
def intEq (a b : D) : Bool:=a.n == b.n
noncomputable def HEqArg (l m : List D) (i : Nat) : Vst 32:=
 stS 32 [(1,.sl 86 m),(2,.c (.func (.func 208) #[] #[])),(15,.sl 86 l),(16,.c (.int .i64 l.length)),(17,.c (.int .i64 i))] []
theorem zHX (l m : List D) (f : D -> D -> Bool) (hn : l.length <= 100000000) (hg : ∀ i,i < l.length -> i < m.length -> AC EN Tryz.prog 208 [.agg (cellsV Tryz.prog 12 86 (gD l i)),.agg (cellsV Tryz.prog 12 86 (gD m i))] (.c (.bool (f (gD l i) (gD m i))))) :
 AC EN Tryz.prog 207 [.sl 86 l,.sl 86 m,.c (.func (.func 208) #[] #[])] (.c (.bool (eqL f l m))):=by
 refine zG 32 Tryz.func207 rfl rfl rfl rfl ?_
 intro s w he
 repeat' (first
|refine zA ?_
|refine zB ?_
|refine zK ?_
|apply aw_1
 conv => whnf
 refine ⟨?_,trivial⟩
|apply s_1
 conv => whnf; arg 1; arg 4; arg 3; whnf
 refine ⟨?_,?_⟩
|refine zP (by conv => lhs; whnf) ?_ ?_ <;> intro hb
|refine zM ?_
|refine zC ?_
|refine ⟨_,by conv => lhs; whnf; arg 2; whnf,?_⟩; conv => rhs; whnf
|exact trivial)
 . rw [zEt ‹_›]
 . have hlen : l.length = m.length:=zC6 ‹_›
   refine zV (fun j st => ∃ i,i + j = l.length /\ (∀ q,q < i -> f (gD l q) (gD m q) = true) /\ Sub (cx EN Tryz.prog s w he) st (HEqArg l m i)) l.length ⟨0,by omega,fun q hq => by omega,?_⟩ ?_
   . exact Sub.live ⟨rfl,rfl,rfl,rfl,rfl,trivial⟩ trivial
   . rintro j st ⟨i,hij,hall,hs2⟩
     refine zW hs2 ?_
     have hg2:=fun (h : decide ((i : Int) < (l.length : Int)) = true) => hg i (by simpa using h) (by rw [<- hlen]; simpa using h)
     repeat' (first
|refine zA ?_
|refine zB ?_
|refine zK ?_
|refine zb ?_
|apply aw_1
 conv => whnf
 refine ⟨?_,trivial⟩
|apply s_1
 conv => whnf; arg 1; arg 4; arg 3; whnf
 refine ⟨?_,?_⟩
|apply zd rfl
 . conv => lhs; whnf
 . conv => lhs; whnf
 . first | exact hg2 ‹_›
|apply zY rfl rfl rfl
 . conv => lhs; whnf
 . conv => lhs; whnf; arg 1; whnf
 . conv => lhs; whnf; arg 1; whnf
 . exact ⟨by kernel_rfl,by kernel_rfl⟩
 . rfl
|refine zP (by conv => lhs; whnf) ?_ ?_ <;> intro hb
|refine zI ?_
|refine zM ?_
|refine zO ?_
|refine zE rfl ?_
|refine zF ?_
|refine zl ?_
|refine zC ?_
|refine ⟨_,by conv => lhs; whnf; arg 2; whnf,?_⟩; conv => rhs; whnf
|exact trivial)
     . have hlt : i < l.length:=by have h : decide ((i : Int) < (l.length : Int)) = true:=by assumption
                                   simpa using h
       have hf : (!f (gD l i) (gD m i)) = true:=by assumption
       rw [zC7 hlt (by simpa using hf)]
     . have hf : (!f (gD l i) (gD m i)) = false:=by assumption
       have hlt : i < l.length:=by have h : decide ((i : Int) < (l.length : Int)) = true:=by assumption
                                   simpa using h
       refine zH (j':=j - 1) (by omega) ⟨i + 1,by omega,fun q hq => ?_,Sub.live ⟨rfl,rfl,rfl,rfl,rfl,trivial⟩ trivial⟩
       by_cases e : q = i
       . subst e; simpa using hf
       . exact hall q (by omega)
     . exact zT (by omega)
     . have h : decide ((i : Int) < (l.length : Int)) = true:=by assumption
       simp at h; omega
     . have h : decide ((i : Int) < (l.length : Int)) = true:=by assumption
       simp at h; omega
     . have h : decide ((i : Int) < (l.length : Int)) = false:=by assumption
       simp at h
       rw [zC8 hlen fun q hq => hall q (by omega)]
noncomputable def HEqDir (l m : List D) (i : Nat) : Vst 32:=
 stS 32 [(1,.sl 150 m),(2,.c (.func (.func 210) #[] #[])),(15,.sl 150 l),(16,.c (.int .i64 l.length)),(17,.c (.int .i64 i))] []
theorem eqFDir_ac (l m : List D) (f : D -> D -> Bool) (hn : l.length <= 100000000) (hg : ∀ i,i < l.length -> i < m.length -> AC EN Tryz.prog 210 [.agg (cellsV Tryz.prog 12 150 (gD l i)),.agg (cellsV Tryz.prog 12 150 (gD m i))] (.c (.bool (f (gD l i) (gD m i))))) :
 AC EN Tryz.prog 209 [.sl 150 l,.sl 150 m,.c (.func (.func 210) #[] #[])] (.c (.bool (eqL f l m))):=by
 refine zG 32 Tryz.func209 rfl rfl rfl rfl ?_
 intro s w he
 repeat' (first
|refine zA ?_
|refine zB ?_
|refine zK ?_
|apply aw_1
 conv => whnf
 refine ⟨?_,trivial⟩
|apply s_1
 conv => whnf; arg 1; arg 4; arg 3; whnf
 refine ⟨?_,?_⟩
|refine zP (by conv => lhs; whnf) ?_ ?_ <;> intro hb
|refine zM ?_
|refine zC ?_
|refine ⟨_,by conv => lhs; whnf; arg 2; whnf,?_⟩; conv => rhs; whnf
|exact trivial)
 . rw [zEt ‹_›]
 . have hlen : l.length = m.length:=zC6 ‹_›
   refine zV (fun j st => ∃ i,i + j = l.length /\ (∀ q,q < i -> f (gD l q) (gD m q) = true) /\ Sub (cx EN Tryz.prog s w he) st (HEqDir l m i)) l.length ⟨0,by omega,fun q hq => by omega,?_⟩ ?_
   . exact Sub.live ⟨rfl,rfl,rfl,rfl,rfl,trivial⟩ trivial
   . rintro j st ⟨i,hij,hall,hs2⟩
     refine zW hs2 ?_
     have hg2:=fun (h : decide ((i : Int) < (l.length : Int)) = true) => hg i (by simpa using h) (by rw [<- hlen]; simpa using h)
     repeat' (first
|refine zA ?_
|refine zB ?_
|refine zK ?_
|refine zb ?_
|apply aw_1
 conv => whnf
 refine ⟨?_,trivial⟩
|apply s_1
 conv => whnf; arg 1; arg 4; arg 3; whnf
 refine ⟨?_,?_⟩
|apply zd rfl
 . conv => lhs; whnf
 . conv => lhs; whnf
 . first | exact hg2 ‹_›
|apply zY rfl rfl rfl
 . conv => lhs; whnf
 . conv => lhs; whnf; arg 1; whnf
 . conv => lhs; whnf; arg 1; whnf
 . exact ⟨by kernel_rfl,by kernel_rfl⟩
 . rfl
|refine zP (by conv => lhs; whnf) ?_ ?_ <;> intro hb
|refine zI ?_
|refine zM ?_
|refine zO ?_
|refine zE rfl ?_
|refine zF ?_
|refine zl ?_
|refine zC ?_
|refine ⟨_,by conv => lhs; whnf; arg 2; whnf,?_⟩; conv => rhs; whnf
|exact trivial)
     . have hlt : i < l.length:=by have h : decide ((i : Int) < (l.length : Int)) = true:=by assumption
                                   simpa using h
       have hf : (!f (gD l i) (gD m i)) = true:=by assumption
       rw [zC7 hlt (by simpa using hf)]
     . have hf : (!f (gD l i) (gD m i)) = false:=by assumption
       have hlt : i < l.length:=by have h : decide ((i : Int) < (l.length : Int)) = true:=by assumption
                                   simpa using h
       refine zH (j':=j - 1) (by omega) ⟨i + 1,by omega,fun q hq => ?_,Sub.live ⟨rfl,rfl,rfl,rfl,rfl,trivial⟩ trivial⟩
       by_cases e : q = i
       . subst e; simpa using hf
       . exact hall q (by omega)
     . exact zT (by omega)
     . have h : decide ((i : Int) < (l.length : Int)) = true:=by assumption
       simp at h; omega
     . have h : decide ((i : Int) < (l.length : Int)) = true:=by assumption
       simp at h; omega
     . have h : decide ((i : Int) < (l.length : Int)) = false:=by assumption
       simp at h
       rw [zC8 hlen fun q hq => hall q (by omega)]
noncomputable def HEqVar (l m : List D) (i : Nat) : Vst 32:=
 stS 32 [(1,.sl 88 m),(2,.c (.func (.func 128) #[] #[])),(15,.sl 88 l),(16,.c (.int .i64 l.length)),(17,.c (.int .i64 i))] []
theorem eqFVar_ac (l m : List D) (f : D -> D -> Bool) (hn : l.length <= 100000000) (hg : ∀ i,i < l.length -> i < m.length -> AC EN Tryz.prog 128 [.agg (cellsV Tryz.prog 12 88 (gD l i)),.agg (cellsV Tryz.prog 12 88 (gD m i))] (.c (.bool (f (gD l i) (gD m i))))) :
 AC EN Tryz.prog 127 [.sl 88 l,.sl 88 m,.c (.func (.func 128) #[] #[])] (.c (.bool (eqL f l m))):=by
 refine zG 32 Tryz.func127 rfl rfl rfl rfl ?_
 intro s w he
 repeat' (first
|refine zA ?_
|refine zB ?_
|refine zK ?_
|apply aw_1
 conv => whnf
 refine ⟨?_,trivial⟩
|apply s_1
 conv => whnf; arg 1; arg 4; arg 3; whnf
 refine ⟨?_,?_⟩
|refine zP (by conv => lhs; whnf) ?_ ?_ <;> intro hb
|refine zM ?_
|refine zC ?_
|refine ⟨_,by conv => lhs; whnf; arg 2; whnf,?_⟩; conv => rhs; whnf
|exact trivial)
 . rw [zEt ‹_›]
 . have hlen : l.length = m.length:=zC6 ‹_›
   refine zV (fun j st => ∃ i,i + j = l.length /\ (∀ q,q < i -> f (gD l q) (gD m q) = true) /\ Sub (cx EN Tryz.prog s w he) st (HEqVar l m i)) l.length ⟨0,by omega,fun q hq => by omega,?_⟩ ?_
   . exact Sub.live ⟨rfl,rfl,rfl,rfl,rfl,trivial⟩ trivial
   . rintro j st ⟨i,hij,hall,hs2⟩
     refine zW hs2 ?_
     have hg2:=fun (h : decide ((i : Int) < (l.length : Int)) = true) => hg i (by simpa using h) (by rw [<- hlen]; simpa using h)
     repeat' (first
|refine zA ?_
|refine zB ?_
|refine zK ?_
|refine zb ?_
|apply aw_1
 conv => whnf
 refine ⟨?_,trivial⟩
|apply s_1
 conv => whnf; arg 1; arg 4; arg 3; whnf
 refine ⟨?_,?_⟩
|apply zd rfl
 . conv => lhs; whnf
 . conv => lhs; whnf
 . first | exact hg2 ‹_›
|apply zY rfl rfl rfl
 . conv => lhs; whnf
 . conv => lhs; whnf; arg 1; whnf
 . conv => lhs; whnf; arg 1; whnf
 . exact ⟨by kernel_rfl,by kernel_rfl⟩
 . rfl
|refine zP (by conv => lhs; whnf) ?_ ?_ <;> intro hb
|refine zI ?_
|refine zM ?_
|refine zO ?_
|refine zE rfl ?_
|refine zF ?_
|refine zl ?_
|refine zC ?_
|refine ⟨_,by conv => lhs; whnf; arg 2; whnf,?_⟩; conv => rhs; whnf
|exact trivial)
     . have hlt : i < l.length:=by have h : decide ((i : Int) < (l.length : Int)) = true:=by assumption
                                   simpa using h
       have hf : (!f (gD l i) (gD m i)) = true:=by assumption
       rw [zC7 hlt (by simpa using hf)]
     . have hf : (!f (gD l i) (gD m i)) = false:=by assumption
       have hlt : i < l.length:=by have h : decide ((i : Int) < (l.length : Int)) = true:=by assumption
                                   simpa using h
       refine zH (j':=j - 1) (by omega) ⟨i + 1,by omega,fun q hq => ?_,Sub.live ⟨rfl,rfl,rfl,rfl,rfl,trivial⟩ trivial⟩
       by_cases e : q = i
       . subst e; simpa using hf
       . exact hall q (by omega)
     . exact zT (by omega)
     . have h : decide ((i : Int) < (l.length : Int)) = true:=by assumption
       simp at h; omega
     . have h : decide ((i : Int) < (l.length : Int)) = true:=by assumption
       simp at h; omega
     . have h : decide ((i : Int) < (l.length : Int)) = false:=by assumption
       simp at h
       rw [zC8 hlen fun q hq => hall q (by omega)]
noncomputable def HEqSel (l m : List D) (i : Nat) : Vst 32:=
 stS 32 [(1,.sl 76 m),(2,.c (.func (.func 130) #[] #[])),(15,.sl 76 l),(16,.c (.int .i64 l.length)),(17,.c (.int .i64 i))] []
theorem zEu (l m : List D) (f : D -> D -> Bool) (hn : l.length <= 100000000) (hg : ∀ i,i < l.length -> i < m.length -> AC EN Tryz.prog 130 [.agg (cellsV Tryz.prog 12 76 (gD l i)),.agg (cellsV Tryz.prog 12 76 (gD m i))] (.c (.bool (f (gD l i) (gD m i))))) :
 AC EN Tryz.prog 129 [.sl 76 l,.sl 76 m,.c (.func (.func 130) #[] #[])] (.c (.bool (eqL f l m))):=by
 refine zG 32 Tryz.func129 rfl rfl rfl rfl ?_
 intro s w he
 repeat' (first
|refine zA ?_
|refine zB ?_
|refine zK ?_
|apply aw_1
 conv => whnf
 refine ⟨?_,trivial⟩
|apply s_1
 conv => whnf; arg 1; arg 4; arg 3; whnf
 refine ⟨?_,?_⟩
|refine zP (by conv => lhs; whnf) ?_ ?_ <;> intro hb
|refine zM ?_
|refine zC ?_
|refine ⟨_,by conv => lhs; whnf; arg 2; whnf,?_⟩; conv => rhs; whnf
|exact trivial)
 . rw [zEt ‹_›]
 . have hlen : l.length = m.length:=zC6 ‹_›
   refine zV (fun j st => ∃ i,i + j = l.length /\ (∀ q,q < i -> f (gD l q) (gD m q) = true) /\ Sub (cx EN Tryz.prog s w he) st (HEqSel l m i)) l.length ⟨0,by omega,fun q hq => by omega,?_⟩ ?_
   . exact Sub.live ⟨rfl,rfl,rfl,rfl,rfl,trivial⟩ trivial
   . rintro j st ⟨i,hij,hall,hs2⟩
     refine zW hs2 ?_
     have hg2:=fun (h : decide ((i : Int) < (l.length : Int)) = true) => hg i (by simpa using h) (by rw [<- hlen]; simpa using h)
     repeat' (first
|refine zA ?_
|refine zB ?_
|refine zK ?_
|refine zb ?_
|apply aw_1
 conv => whnf
 refine ⟨?_,trivial⟩
|apply s_1
 conv => whnf; arg 1; arg 4; arg 3; whnf
 refine ⟨?_,?_⟩
|apply zd rfl
 . conv => lhs; whnf
 . conv => lhs; whnf
 . first | exact hg2 ‹_›
|apply zY rfl rfl rfl
 . conv => lhs; whnf
 . conv => lhs; whnf; arg 1; whnf
 . conv => lhs; whnf; arg 1; whnf
 . exact ⟨by kernel_rfl,by kernel_rfl⟩
 . rfl
|refine zP (by conv => lhs; whnf) ?_ ?_ <;> intro hb
|refine zI ?_
|refine zM ?_
|refine zO ?_
|refine zE rfl ?_
|refine zF ?_
|refine zl ?_
|refine zC ?_
|refine ⟨_,by conv => lhs; whnf; arg 2; whnf,?_⟩; conv => rhs; whnf
|exact trivial)
     . have hlt : i < l.length:=by have h : decide ((i : Int) < (l.length : Int)) = true:=by assumption
                                   simpa using h
       have hf : (!f (gD l i) (gD m i)) = true:=by assumption
       rw [zC7 hlt (by simpa using hf)]
     . have hf : (!f (gD l i) (gD m i)) = false:=by assumption
       have hlt : i < l.length:=by have h : decide ((i : Int) < (l.length : Int)) = true:=by assumption
                                   simpa using h
       refine zH (j':=j - 1) (by omega) ⟨i + 1,by omega,fun q hq => ?_,Sub.live ⟨rfl,rfl,rfl,rfl,rfl,trivial⟩ trivial⟩
       by_cases e : q = i
       . subst e; simpa using hf
       . exact hall q (by omega)
     . exact zT (by omega)
     . have h : decide ((i : Int) < (l.length : Int)) = true:=by assumption
       simp at h; omega
     . have h : decide ((i : Int) < (l.length : Int)) = true:=by assumption
       simp at h; omega
     . have h : decide ((i : Int) < (l.length : Int)) = false:=by assumption
       simp at h
       rw [zC8 hlen fun q hq => hall q (by omega)]
noncomputable def HEqOp (l m : List D) (i : Nat) : Vst 32:=
 stS 32 [(1,.sl 57 m),(2,.c (.func (.func 63) #[] #[])),(15,.sl 57 l),(16,.c (.int .i64 l.length)),(17,.c (.int .i64 i))] []
theorem eqFOp_ac (l m : List D) (f : D -> D -> Bool) (hn : l.length <= 100000000) (hg : ∀ i,i < l.length -> i < m.length -> AC EN Tryz.prog 63 [.agg (cellsV Tryz.prog 12 57 (gD l i)),.agg (cellsV Tryz.prog 12 57 (gD m i))] (.c (.bool (f (gD l i) (gD m i))))) :
 AC EN Tryz.prog 62 [.sl 57 l,.sl 57 m,.c (.func (.func 63) #[] #[])] (.c (.bool (eqL f l m))):=by
 refine zG 32 Tryz.func62 rfl rfl rfl rfl ?_
 intro s w he
 repeat' (first
|refine zA ?_
|refine zB ?_
|refine zK ?_
|apply aw_1
 conv => whnf
 refine ⟨?_,trivial⟩
|apply s_1
 conv => whnf; arg 1; arg 4; arg 3; whnf
 refine ⟨?_,?_⟩
|refine zP (by conv => lhs; whnf) ?_ ?_ <;> intro hb
|refine zM ?_
|refine zC ?_
|refine ⟨_,by conv => lhs; whnf; arg 2; whnf,?_⟩; conv => rhs; whnf
|exact trivial)
 . rw [zEt ‹_›]
 . have hlen : l.length = m.length:=zC6 ‹_›
   refine zV (fun j st => ∃ i,i + j = l.length /\ (∀ q,q < i -> f (gD l q) (gD m q) = true) /\ Sub (cx EN Tryz.prog s w he) st (HEqOp l m i)) l.length ⟨0,by omega,fun q hq => by omega,?_⟩ ?_
   . exact Sub.live ⟨rfl,rfl,rfl,rfl,rfl,trivial⟩ trivial
   . rintro j st ⟨i,hij,hall,hs2⟩
     refine zW hs2 ?_
     have hg2:=fun (h : decide ((i : Int) < (l.length : Int)) = true) => hg i (by simpa using h) (by rw [<- hlen]; simpa using h)
     repeat' (first
|refine zA ?_
|refine zB ?_
|refine zK ?_
|refine zb ?_
|apply aw_1
 conv => whnf
 refine ⟨?_,trivial⟩
|apply s_1
 conv => whnf; arg 1; arg 4; arg 3; whnf
 refine ⟨?_,?_⟩
|apply zd rfl
 . conv => lhs; whnf
 . conv => lhs; whnf
 . first | exact hg2 ‹_›
|apply zY rfl rfl rfl
 . conv => lhs; whnf
 . conv => lhs; whnf; arg 1; whnf
 . conv => lhs; whnf; arg 1; whnf
 . exact ⟨by kernel_rfl,by kernel_rfl⟩
 . rfl
|refine zP (by conv => lhs; whnf) ?_ ?_ <;> intro hb
|refine zI ?_
|refine zM ?_
|refine zO ?_
|refine zE rfl ?_
|refine zF ?_
|refine zl ?_
|refine zC ?_
|refine ⟨_,by conv => lhs; whnf; arg 2; whnf,?_⟩; conv => rhs; whnf
|exact trivial)
     . have hlt : i < l.length:=by have h : decide ((i : Int) < (l.length : Int)) = true:=by assumption
                                   simpa using h
       have hf : (!f (gD l i) (gD m i)) = true:=by assumption
       rw [zC7 hlt (by simpa using hf)]
     . have hf : (!f (gD l i) (gD m i)) = false:=by assumption
       have hlt : i < l.length:=by have h : decide ((i : Int) < (l.length : Int)) = true:=by assumption
                                   simpa using h
       refine zH (j':=j - 1) (by omega) ⟨i + 1,by omega,fun q hq => ?_,Sub.live ⟨rfl,rfl,rfl,rfl,rfl,trivial⟩ trivial⟩
       by_cases e : q = i
       . subst e; simpa using hf
       . exact hall q (by omega)
     . exact zT (by omega)
     . have h : decide ((i : Int) < (l.length : Int)) = true:=by assumption
       simp at h; omega
     . have h : decide ((i : Int) < (l.length : Int)) = true:=by assumption
       simp at h; omega
     . have h : decide ((i : Int) < (l.length : Int)) = false:=by assumption
       simp at h
       rw [zC8 hlen fun q hq => hall q (by omega)]
noncomputable def HEqFrag (l m : List D) (i : Nat) : Vst 32:=
 stS 32 [(1,.sl 116 m),(2,.c (.func (.func 65) #[] #[])),(15,.sl 116 l),(16,.c (.int .i64 l.length)),(17,.c (.int .i64 i))] []
theorem eqFFrag_ac (l m : List D) (f : D -> D -> Bool) (hn : l.length <= 100000000) (hg : ∀ i,i < l.length -> i < m.length -> AC EN Tryz.prog 65 [.agg (cellsV Tryz.prog 12 116 (gD l i)),.agg (cellsV Tryz.prog 12 116 (gD m i))] (.c (.bool (f (gD l i) (gD m i))))) :
 AC EN Tryz.prog 64 [.sl 116 l,.sl 116 m,.c (.func (.func 65) #[] #[])] (.c (.bool (eqL f l m))):=by
 refine zG 32 Tryz.func64 rfl rfl rfl rfl ?_
 intro s w he
 repeat' (first
|refine zA ?_
|refine zB ?_
|refine zK ?_
|apply aw_1
 conv => whnf
 refine ⟨?_,trivial⟩
|apply s_1
 conv => whnf; arg 1; arg 4; arg 3; whnf
 refine ⟨?_,?_⟩
|refine zP (by conv => lhs; whnf) ?_ ?_ <;> intro hb
|refine zM ?_
|refine zC ?_
|refine ⟨_,by conv => lhs; whnf; arg 2; whnf,?_⟩; conv => rhs; whnf
|exact trivial)
 . rw [zEt ‹_›]
 . have hlen : l.length = m.length:=zC6 ‹_›
   refine zV (fun j st => ∃ i,i + j = l.length /\ (∀ q,q < i -> f (gD l q) (gD m q) = true) /\ Sub (cx EN Tryz.prog s w he) st (HEqFrag l m i)) l.length ⟨0,by omega,fun q hq => by omega,?_⟩ ?_
   . exact Sub.live ⟨rfl,rfl,rfl,rfl,rfl,trivial⟩ trivial
   . rintro j st ⟨i,hij,hall,hs2⟩
     refine zW hs2 ?_
     have hg2:=fun (h : decide ((i : Int) < (l.length : Int)) = true) => hg i (by simpa using h) (by rw [<- hlen]; simpa using h)
     repeat' (first
|refine zA ?_
|refine zB ?_
|refine zK ?_
|refine zb ?_
|apply aw_1
 conv => whnf
 refine ⟨?_,trivial⟩
|apply s_1
 conv => whnf; arg 1; arg 4; arg 3; whnf
 refine ⟨?_,?_⟩
|apply zd rfl
 . conv => lhs; whnf
 . conv => lhs; whnf
 . first | exact hg2 ‹_›
|apply zY rfl rfl rfl
 . conv => lhs; whnf
 . conv => lhs; whnf; arg 1; whnf
 . conv => lhs; whnf; arg 1; whnf
 . exact ⟨by kernel_rfl,by kernel_rfl⟩
 . rfl
|refine zP (by conv => lhs; whnf) ?_ ?_ <;> intro hb
|refine zI ?_
|refine zM ?_
|refine zO ?_
|refine zE rfl ?_
|refine zF ?_
|refine zl ?_
|refine zC ?_
|refine ⟨_,by conv => lhs; whnf; arg 2; whnf,?_⟩; conv => rhs; whnf
|exact trivial)
     . have hlt : i < l.length:=by have h : decide ((i : Int) < (l.length : Int)) = true:=by assumption
                                   simpa using h
       have hf : (!f (gD l i) (gD m i)) = true:=by assumption
       rw [zC7 hlt (by simpa using hf)]
     . have hf : (!f (gD l i) (gD m i)) = false:=by assumption
       have hlt : i < l.length:=by have h : decide ((i : Int) < (l.length : Int)) = true:=by assumption
                                   simpa using h
       refine zH (j':=j - 1) (by omega) ⟨i + 1,by omega,fun q hq => ?_,Sub.live ⟨rfl,rfl,rfl,rfl,rfl,trivial⟩ trivial⟩
       by_cases e : q = i
       . subst e; simpa using hf
       . exact hall q (by omega)
     . exact zT (by omega)
     . have h : decide ((i : Int) < (l.length : Int)) = true:=by assumption
       simp at h; omega
     . have h : decide ((i : Int) < (l.length : Int)) = true:=by assumption
       simp at h; omega
     . have h : decide ((i : Int) < (l.length : Int)) = false:=by assumption
       simp at h
       rw [zC8 hlen fun q hq => hall q (by omega)]
noncomputable def HEqInt (l m : List D) (i : Nat) : Vst 26:=
 stS 26 [(0,.sl 3 l),(1,.sl 3 m),(12,.c (.int .i64 l.length)),(13,.c (.int .i64 i))] []
theorem eqInt_ac (l m : List D) (hn : l.length <= 100000000) : AC EN Tryz.prog 283 [.sl 3 l,.sl 3 m] (.c (.bool (eqL intEq l m))):=by
 refine zG 26 Tryz.func283 rfl rfl rfl rfl ?_
 intro s w he
 repeat' (first
|refine zA ?_
|refine zB ?_
|refine zK ?_
|apply aw_1
 conv => whnf
 refine ⟨?_,trivial⟩
|apply s_1
 conv => whnf; arg 1; arg 4; arg 3; whnf
 refine ⟨?_,?_⟩
|refine zP (by conv => lhs; whnf) ?_ ?_ <;> intro hb
|refine zM ?_
|refine zC ?_
|refine ⟨_,by conv => lhs; whnf; arg 2; whnf,?_⟩; conv => rhs; whnf
|exact trivial)
 . rw [zEt ‹_›]
 . have hlen : l.length = m.length:=zC6 ‹_›
   refine zV (fun j st => ∃ i,i + j = l.length /\ (∀ q,q < i -> intEq (gD l q) (gD m q) = true) /\ Sub (cx EN Tryz.prog s w he) st (HEqInt l m i)) l.length ⟨0,by omega,fun q hq => by omega,?_⟩ ?_
   . exact Sub.live ⟨rfl,rfl,rfl,rfl,trivial⟩ trivial
   . rintro j st ⟨i,hij,hall,hs2⟩
     refine zW hs2 ?_
     repeat' (first
|refine zA ?_
|refine zB ?_
|refine zK ?_
|refine zb ?_
|apply aw_1
 conv => whnf
 refine ⟨?_,trivial⟩
|apply s_1
 conv => whnf; arg 1; arg 4; arg 3; whnf
 refine ⟨?_,?_⟩
|apply zAb (by kernel_rfl) (by kernel_rfl)
|apply zCE
|apply zCD rfl
 . conv => lhs; whnf
 . conv => lhs; whnf; arg 2; whnf
|exact zr
|exact zAQ
|exact (1000000 : Nat)
|refine zP (by conv => lhs; whnf) ?_ ?_ <;> intro hb
|refine zI ?_
|refine zM ?_
|refine zO ?_
|refine zE rfl ?_
|refine zF ?_
|refine zl ?_
|refine zC ?_
|refine ⟨_,by conv => lhs; whnf; arg 2; whnf,?_⟩; conv => rhs; whnf
|exact trivial)
     . have hlt : i < l.length:=by have h : decide ((i : Int) < (l.length : Int)) = true:=by assumption
                                   simpa using h
       have hf : (!intEq (gD l i) (gD m i)) = true:=by assumption
       rw [zC7 hlt (by simpa using hf)]
     . have hf : (!intEq (gD l i) (gD m i)) = false:=by assumption
       have hlt : i < l.length:=by have h : decide ((i : Int) < (l.length : Int)) = true:=by assumption
                                   simpa using h
       refine zH (j':=j - 1) (by omega) ⟨i + 1,by omega,fun q hq => ?_,Sub.live ⟨rfl,rfl,rfl,rfl,trivial⟩ trivial⟩
       by_cases e : q = i
       . subst e; simpa using hf
       . exact hall q (by omega)
     . exact zT (by omega)
     . have h : decide ((i : Int) < (l.length : Int)) = true:=by assumption
       simp at h; omega
     . have h : decide ((i : Int) < (l.length : Int)) = true:=by assumption
       simp at h; omega
     . have h : decide ((i : Int) < (l.length : Int)) = false:=by assumption
       simp at h
       rw [zC8 hlen fun q hq => hall q (by omega)]
def valEq (a b : D) : Bool:=cmpV (bulkD a + bulkD b) a b == 0
def sEq (a b : D) : Bool:=a.s.toList == b.s.toList
def argEq (a b : D) : Bool:=sEq (a.f 0) (b.f 0) && valEq (a.f 1) (b.f 1)
def dirEq (a b : D) : Bool:=sEq (a.f 0) (b.f 0) && eqL argEq (a.f 1).l (b.f 1).l
def refEq (a b : D) : Bool:=sEq (a.f 0) (b.f 0) && eqL intEq (a.f 1).l (b.f 1).l
def varEq (a b : D) : Bool:=sEq (a.f 0) (b.f 0) && (refEq (a.f 1) (b.f 1) && ((a.f 2).b == (b.f 2).b && valEq (a.f 3) (b.f 3)))
def zG3 : Nat -> D -> D -> Bool
 | 0,_,_ => false
 | k + 1,a,b => ((a.f 0).n == (b.f 0).n) && (sEq (a.f 1) (b.f 1) && (sEq (a.f 2) (b.f 2) && (sEq (a.f 3) (b.f 3) && (eqL argEq (a.f 4).l (b.f 4).l && (eqL dirEq (a.f 5).l (b.f 5).l && eqL (zG3 k) (a.f 6).l (b.f 6).l)))))
def opEq (k : Nat) (a b : D) : Bool:=((a.f 0).n == (b.f 0).n) && (sEq (a.f 1) (b.f 1) && (eqL varEq (a.f 2).l (b.f 2).l && eqL (zG3 k) (a.f 3).l (b.f 3).l))
def frgEq (k : Nat) (a b : D) : Bool:=sEq (a.f 0) (b.f 0) && (sEq (a.f 1) (b.f 1) && eqL (zG3 k) (a.f 2).l (b.f 2).l)
def queEq (k : Nat) (a b c d : List D) : Bool:=eqL (opEq k) a c && eqL (frgEq k) b d
theorem valP_ac (a b : D) (ha : bulkD a <= 400000000) (hb : bulkD b <= 400000000) : AC EN Tryz.prog 154 [.agg (cellsV Tryz.prog 12 84 a),.agg (cellsV Tryz.prog 12 84 b)] (.c (.bool (valEq a b))):=
 same_valE _ a b (zBh _ _ (by omega)) (zBh _ _ (by omega)) (by omega) (by omega)
theorem zo (a : D) (i : Nat) : bulkD (a.f i) <= bulkD a /\ bulkL (a.f i).l <= bulkD a /\ bulkL (a.f i).l < bulkD a:=by
 have h1:=wD_f a i
 have h2:=zZ a
 have h3:=zZ (a.f i)
 have h4:=zi (a.f i)
 omega
theorem zw {l : List D} {i : Nat} (h : i < l.length) {N : Nat} (hb : bulkL l <= N) : bulkD (gD l i) <= N:=Nat.le_trans (zk h) hb
theorem argP_ac (a b : D) (ha : bulkD a <= 100000000) (hb : bulkD b <= 100000000) : AC EN Tryz.prog 208 [.agg (cellsV Tryz.prog 12 86 a),.agg (cellsV Tryz.prog 12 86 b)] (.c (.bool (argEq a b))):=by
 have h1:=valP_ac (a.f 1) (b.f 1) (by have:=zo a 1; omega) (by have:=zo b 1; omega)
 unfold argEq sEq
 refine zG 17 Tryz.func208 rfl rfl rfl rfl ?_
 intro s w he
 repeat' (first
|refine zA ?_
|refine zB ?_
|refine zK ?_
|apply aw_1
 conv => whnf
 refine ⟨?_,trivial⟩
|apply zX rfl rfl
 . conv => lhs; whnf
 . conv => lhs; whnf
 . first | exact bT1 ‹_› | exact bT2 ‹_›
|apply zR rfl rfl
 . conv => lhs; whnf
 . conv => lhs; whnf
 . first | exact bF1 ‹_› | exact bF2 ‹_›
|apply s_1
 conv => whnf; arg 1; arg 4; arg 3; whnf
 refine ⟨?_,?_⟩
|apply zAC rfl rfl rfl rfl
 . conv => lhs; whnf; arg 1; whnf
 . rfl
|apply zD rfl
 . conv => lhs; whnf
 . conv => lhs; whnf
 . first | rfl | assumption
 . conv => lhs; whnf; arg 2; whnf
|apply za rfl
 . conv => lhs; whnf
 . conv => lhs; whnf
 . first | rfl | assumption
 . conv => lhs; whnf
 . first | exact h1
|apply ze rfl
 . conv => lhs; whnf
 . conv => lhs; whnf
 . first | rfl | assumption
|apply zJ rfl
 . conv => lhs; whnf
 . conv => lhs; whnf
 . conv => lhs; whnf; arg 2; whnf
|refine zC ?_
|refine ⟨_,by conv => lhs; whnf; arg 2; whnf,?_⟩; conv => rhs; whnf
|exact trivial
|intro hg)
 all_goals first | exact Tryz.underlying4 | (simp only [beq_true] at *; simp only [*,Bool.true_and,Bool.false_and,Bool.and_true,Bool.and_false])
theorem dirP_ac (a b : D) (ha : bulkD a <= 100000000) (hb : bulkD b <= 100000000) : AC EN Tryz.prog 210 [.agg (cellsV Tryz.prog 12 150 a),.agg (cellsV Tryz.prog 12 150 b)] (.c (.bool (dirEq a b))):=by
 have h1:=zHX (a.f 1).l (b.f 1).l argEq (by have:=zt (a.f 1).l; have:=zo a 1; omega) fun i hi hj => argP_ac _ _ (by have:=zo a 1; have:=zw hi (Nat.le_refl _); omega) (by have:=zo b 1; have:=zw hj (Nat.le_refl _); omega)
 unfold dirEq sEq
 refine zG 17 Tryz.func210 rfl rfl rfl rfl ?_
 intro s w he
 repeat' (first
|refine zA ?_
|refine zB ?_
|refine zK ?_
|apply aw_1
 conv => whnf
 refine ⟨?_,trivial⟩
|apply zX rfl rfl
 . conv => lhs; whnf
 . conv => lhs; whnf
 . first | exact bT1 ‹_› | exact bT2 ‹_›
|apply zR rfl rfl
 . conv => lhs; whnf
 . conv => lhs; whnf
 . first | exact bF1 ‹_› | exact bF2 ‹_›
|apply s_1
 conv => whnf; arg 1; arg 4; arg 3; whnf
 refine ⟨?_,?_⟩
|apply zAC rfl rfl rfl rfl
 . conv => lhs; whnf; arg 1; whnf
 . rfl
|apply zD rfl
 . conv => lhs; whnf
 . conv => lhs; whnf
 . first | rfl | assumption
 . conv => lhs; whnf; arg 2; whnf
|apply za rfl
 . conv => lhs; whnf
 . conv => lhs; whnf
 . first | rfl | assumption
 . conv => lhs; whnf
 . first | exact h1
|apply ze rfl
 . conv => lhs; whnf
 . conv => lhs; whnf
 . first | rfl | assumption
|apply zJ rfl
 . conv => lhs; whnf
 . conv => lhs; whnf
 . conv => lhs; whnf; arg 2; whnf
|refine zC ?_
|refine ⟨_,by conv => lhs; whnf; arg 2; whnf,?_⟩; conv => rhs; whnf
|exact trivial
|intro hg)
 all_goals first | exact Tryz.underlying4 | (simp only [beq_true] at *; simp only [*,Bool.true_and,Bool.false_and,Bool.and_true,Bool.and_false])
theorem refE_ac (a b : D) (ha : bulkD a <= 100000000) (hb : bulkD b <= 100000000) : AC EN Tryz.prog 206 [.agg (cellsV Tryz.prog 12 71 a),.agg (cellsV Tryz.prog 12 71 b)] (.c (.bool (refEq a b))):=by
 have h1:=eqInt_ac (a.f 1).l (b.f 1).l (by have:=zt (a.f 1).l; have:=zo a 1; omega)
 unfold refEq sEq
 refine zG 17 Tryz.func206 rfl rfl rfl rfl ?_
 intro s w he
 repeat' (first
|refine zA ?_
|refine zB ?_
|refine zK ?_
|apply aw_1
 conv => whnf
 refine ⟨?_,trivial⟩
|apply zX rfl rfl
 . conv => lhs; whnf
 . conv => lhs; whnf
 . first | exact bT1 ‹_› | exact bT2 ‹_›
|apply zR rfl rfl
 . conv => lhs; whnf
 . conv => lhs; whnf
 . first | exact bF1 ‹_› | exact bF2 ‹_›
|apply s_1
 conv => whnf; arg 1; arg 4; arg 3; whnf
 refine ⟨?_,?_⟩
|apply zAC rfl rfl rfl rfl
 . conv => lhs; whnf; arg 1; whnf
 . rfl
|apply zD rfl
 . conv => lhs; whnf
 . conv => lhs; whnf
 . first | rfl | assumption
 . conv => lhs; whnf; arg 2; whnf
|apply za rfl
 . conv => lhs; whnf
 . conv => lhs; whnf
 . first | rfl | assumption
 . conv => lhs; whnf
 . first | exact h1
|apply ze rfl
 . conv => lhs; whnf
 . conv => lhs; whnf
 . first | rfl | assumption
|apply zJ rfl
 . conv => lhs; whnf
 . conv => lhs; whnf
 . conv => lhs; whnf; arg 2; whnf
|refine zC ?_
|refine ⟨_,by conv => lhs; whnf; arg 2; whnf,?_⟩; conv => rhs; whnf
|exact trivial
|intro hg)
 all_goals first | exact Tryz.underlying4 | (simp only [beq_true] at *; simp only [*,Bool.true_and,Bool.false_and,Bool.and_true,Bool.and_false])
theorem varE_ac (a b : D) (ha : bulkD a <= 100000000) (hb : bulkD b <= 100000000) : AC EN Tryz.prog 128 [.agg (cellsV Tryz.prog 12 88 a),.agg (cellsV Tryz.prog 12 88 b)] (.c (.bool (varEq a b))):=by
 have h1:=refE_ac (a.f 1) (b.f 1) (by have:=zo a 1; omega) (by have:=zo b 1; omega)
 have h2:=valP_ac (a.f 3) (b.f 3) (by have:=zo a 3; omega) (by have:=zo b 3; omega)
 unfold varEq sEq
 refine zG 31 Tryz.func128 rfl rfl rfl rfl ?_
 intro s w he
 repeat' (first
|refine zA ?_
|refine zB ?_
|refine zK ?_
|apply aw_1
 conv => whnf
 refine ⟨?_,trivial⟩
|apply zX rfl rfl
 . conv => lhs; whnf
 . conv => lhs; whnf
 . first | exact bT1 ‹_› | exact bT2 ‹_›
|apply zR rfl rfl
 . conv => lhs; whnf
 . conv => lhs; whnf
 . first | exact bF1 ‹_› | exact bF2 ‹_›
|apply s_1
 conv => whnf; arg 1; arg 4; arg 3; whnf
 refine ⟨?_,?_⟩
|apply zAC rfl rfl rfl rfl
 . conv => lhs; whnf; arg 1; whnf
 . rfl
|apply zD rfl
 . conv => lhs; whnf
 . conv => lhs; whnf
 . first | rfl | assumption
 . conv => lhs; whnf; arg 2; whnf
|apply za rfl
 . conv => lhs; whnf
 . conv => lhs; whnf
 . first | rfl | assumption
 . conv => lhs; whnf
 . first | exact h1 | exact h2
|apply ze rfl
 . conv => lhs; whnf
 . conv => lhs; whnf
 . first | rfl | assumption
|apply zJ rfl
 . conv => lhs; whnf
 . conv => lhs; whnf
 . conv => lhs; whnf; arg 2; whnf
|refine zC ?_
|refine ⟨_,by conv => lhs; whnf; arg 2; whnf,?_⟩; conv => rhs; whnf
|exact trivial
|intro hg)
 all_goals first | exact Tryz.underlying4 | (simp only [beq_true] at *; simp only [*,Bool.true_and,Bool.false_and,Bool.and_true,Bool.and_false])
theorem zIG : ∀ (k : Nat) (a b : D),bulkD a < k -> bulkD a <= 100000000 -> bulkD b <= 100000000 -> AC EN Tryz.prog 130 [.agg (cellsV Tryz.prog 12 76 a),.agg (cellsV Tryz.prog 12 76 b)] (.c (.bool (zG3 k a b)))
 | 0,_,_,h,_,_ => by omega
 | k + 1,a,b,h,ha,hb => by
   have h1:=zHX (a.f 4).l (b.f 4).l argEq (by have:=zt (a.f 4).l; have:=zo a 4; omega) fun i hi hj => argP_ac _ _ (by have:=zo a 4; have:=zw hi (Nat.le_refl _); omega) (by have:=zo b 4; have:=zw hj (Nat.le_refl _); omega)
   have h2:=eqFDir_ac (a.f 5).l (b.f 5).l dirEq (by have:=zt (a.f 5).l; have:=zo a 5; omega) fun i hi hj => dirP_ac _ _ (by have:=zo a 5; have:=zw hi (Nat.le_refl _); omega) (by have:=zo b 5; have:=zw hj (Nat.le_refl _); omega)
   have h3:=zEu (a.f 6).l (b.f 6).l (zG3 k) (by have:=zt (a.f 6).l; have:=zo a 6; omega) fun i hi hj => zIG k _ _ (by have:=zo a 6; have:=zw hi (Nat.le_refl _); omega) (by have:=zo a 6; have:=zw hi (Nat.le_refl _); omega) (by have:=zo b 6; have:=zw hj (Nat.le_refl _); omega)
   unfold zG3 sEq
   refine zG 52 Tryz.func130 rfl rfl rfl rfl ?_
   intro s w he
   repeat' (first
|refine zA ?_
|refine zB ?_
|refine zK ?_
|apply aw_1
 conv => whnf
 refine ⟨?_,trivial⟩
|apply zX rfl rfl
 . conv => lhs; whnf
 . conv => lhs; whnf
 . first | exact bT1 ‹_› | exact bT2 ‹_›
|apply zR rfl rfl
 . conv => lhs; whnf
 . conv => lhs; whnf
 . first | exact bF1 ‹_› | exact bF2 ‹_›
|apply s_1
 conv => whnf; arg 1; arg 4; arg 3; whnf
 refine ⟨?_,?_⟩
|apply zAC rfl rfl rfl rfl
 . conv => lhs; whnf; arg 1; whnf
 . rfl
|apply zD rfl
 . conv => lhs; whnf
 . conv => lhs; whnf
 . first | rfl | assumption
 . conv => lhs; whnf; arg 2; whnf
|apply za rfl
 . conv => lhs; whnf
 . conv => lhs; whnf
 . first | rfl | assumption
 . conv => lhs; whnf
 . first | exact h1 | exact h2 | exact h3
|apply ze rfl
 . conv => lhs; whnf
 . conv => lhs; whnf
 . first | rfl | assumption
|apply zJ rfl
 . conv => lhs; whnf
 . conv => lhs; whnf
 . conv => lhs; whnf; arg 2; whnf
|refine zC ?_
|refine ⟨_,by conv => lhs; whnf; arg 2; whnf,?_⟩; conv => rhs; whnf
|exact trivial
|intro hg)
   all_goals first | exact Tryz.underlying4 | (simp only [beq_true] at *; simp only [*,Bool.true_and,Bool.false_and,Bool.and_true,Bool.and_false])
theorem opE_ac (k : Nat) (a b : D) (hk : bulkD a <= k) (ha : bulkD a <= 100000000) (hb : bulkD b <= 100000000) : AC EN Tryz.prog 63 [.agg (cellsV Tryz.prog 12 57 a),.agg (cellsV Tryz.prog 12 57 b)] (.c (.bool (opEq k a b))):=by
 have h1:=eqFVar_ac (a.f 2).l (b.f 2).l varEq (by have:=zt (a.f 2).l; have:=zo a 2; omega) fun i hi hj => varE_ac _ _ (by have:=zo a 2; have:=zw hi (Nat.le_refl _); omega) (by have:=zo b 2; have:=zw hj (Nat.le_refl _); omega)
 have h2:=zEu (a.f 3).l (b.f 3).l (zG3 k) (by have:=zt (a.f 3).l; have:=zo a 3; omega) fun i hi hj => zIG k _ _ (by have:=zo a 3; have:=zw hi (Nat.le_refl _); omega) (by have:=zo a 3; have:=zw hi (Nat.le_refl _); omega) (by have:=zo b 3; have:=zw hj (Nat.le_refl _); omega)
 unfold opEq sEq
 refine zG 31 Tryz.func63 rfl rfl rfl rfl ?_
 intro s w he
 repeat' (first
|refine zA ?_
|refine zB ?_
|refine zK ?_
|apply aw_1
 conv => whnf
 refine ⟨?_,trivial⟩
|apply zX rfl rfl
 . conv => lhs; whnf
 . conv => lhs; whnf
 . first | exact bT1 ‹_› | exact bT2 ‹_›
|apply zR rfl rfl
 . conv => lhs; whnf
 . conv => lhs; whnf
 . first | exact bF1 ‹_› | exact bF2 ‹_›
|apply s_1
 conv => whnf; arg 1; arg 4; arg 3; whnf
 refine ⟨?_,?_⟩
|apply zAC rfl rfl rfl rfl
 . conv => lhs; whnf; arg 1; whnf
 . rfl
|apply zD rfl
 . conv => lhs; whnf
 . conv => lhs; whnf
 . first | rfl | assumption
 . conv => lhs; whnf; arg 2; whnf
|apply za rfl
 . conv => lhs; whnf
 . conv => lhs; whnf
 . first | rfl | assumption
 . conv => lhs; whnf
 . first | exact h1 | exact h2
|apply ze rfl
 . conv => lhs; whnf
 . conv => lhs; whnf
 . first | rfl | assumption
|apply zJ rfl
 . conv => lhs; whnf
 . conv => lhs; whnf
 . conv => lhs; whnf; arg 2; whnf
|refine zC ?_
|refine ⟨_,by conv => lhs; whnf; arg 2; whnf,?_⟩; conv => rhs; whnf
|exact trivial
|intro hg)
 all_goals first | exact Tryz.underlying4 | (simp only [beq_true] at *; simp only [*,Bool.true_and,Bool.false_and,Bool.and_true,Bool.and_false])
theorem frgE_ac (k : Nat) (a b : D) (hk : bulkD a <= k) (ha : bulkD a <= 100000000) (hb : bulkD b <= 100000000) : AC EN Tryz.prog 65 [.agg (cellsV Tryz.prog 12 116 a),.agg (cellsV Tryz.prog 12 116 b)] (.c (.bool (frgEq k a b))):=by
 have h1:=zEu (a.f 2).l (b.f 2).l (zG3 k) (by have:=zt (a.f 2).l; have:=zo a 2; omega) fun i hi hj => zIG k _ _ (by have:=zo a 2; have:=zw hi (Nat.le_refl _); omega) (by have:=zo a 2; have:=zw hi (Nat.le_refl _); omega) (by have:=zo b 2; have:=zw hj (Nat.le_refl _); omega)
 unfold frgEq sEq
 refine zG 24 Tryz.func65 rfl rfl rfl rfl ?_
 intro s w he
 repeat' (first
|refine zA ?_
|refine zB ?_
|refine zK ?_
|apply aw_1
 conv => whnf
 refine ⟨?_,trivial⟩
|apply zX rfl rfl
 . conv => lhs; whnf
 . conv => lhs; whnf
 . first | exact bT1 ‹_› | exact bT2 ‹_›
|apply zR rfl rfl
 . conv => lhs; whnf
 . conv => lhs; whnf
 . first | exact bF1 ‹_› | exact bF2 ‹_›
|apply s_1
 conv => whnf; arg 1; arg 4; arg 3; whnf
 refine ⟨?_,?_⟩
|apply zAC rfl rfl rfl rfl
 . conv => lhs; whnf; arg 1; whnf
 . rfl
|apply zD rfl
 . conv => lhs; whnf
 . conv => lhs; whnf
 . first | rfl | assumption
 . conv => lhs; whnf; arg 2; whnf
|apply za rfl
 . conv => lhs; whnf
 . conv => lhs; whnf
 . first | rfl | assumption
 . conv => lhs; whnf
 . first | exact h1
|apply ze rfl
 . conv => lhs; whnf
 . conv => lhs; whnf
 . first | rfl | assumption
|apply zJ rfl
 . conv => lhs; whnf
 . conv => lhs; whnf
 . conv => lhs; whnf; arg 2; whnf
|refine zC ?_
|refine ⟨_,by conv => lhs; whnf; arg 2; whnf,?_⟩; conv => rhs; whnf
|exact trivial
|intro hg)
 all_goals first | exact Tryz.underlying4 | (simp only [beq_true] at *; simp only [*,Bool.true_and,Bool.false_and,Bool.and_true,Bool.and_false])
theorem zJE (k : Nat) (a b c d : List D) (hka : bulkL a <= k) (hkb : bulkL b <= k) (ha : bulkL a <= 100000000) (hb : bulkL b <= 100000000) (hc : bulkL c <= 100000000) (hd : bulkL d <= 100000000) : AC EN Tryz.prog 31 [.agg [.sl 57 a,.sl 116 b],.agg [.sl 57 c,.sl 116 d]] (.c (.bool (queEq k a b c d))):=by
 have h1:=eqFOp_ac a c (opEq k) (by have:=zt a; omega) fun i hi hj => opE_ac k _ _ (zw hi hka) (zw hi ha) (zw hj hc)
 have h2:=eqFFrag_ac b d (frgEq k) (by have:=zt b; omega) fun i hi hj => frgE_ac k _ _ (zw hi hkb) (zw hi hb) (zw hj hd)
 unfold queEq
 refine zG 17 Tryz.func31 rfl rfl rfl rfl ?_
 intro s w he
 repeat' (first
|refine zA ?_
|refine zB ?_
|refine zK ?_
|apply aw_1
 conv => whnf
 refine ⟨?_,trivial⟩
|apply zX rfl rfl
 . conv => lhs; whnf
 . conv => lhs; whnf
 . first | exact bT1 ‹_› | exact bT2 ‹_›
|apply zR rfl rfl
 . conv => lhs; whnf
 . conv => lhs; whnf
 . first | exact bF1 ‹_› | exact bF2 ‹_›
|apply s_1
 conv => whnf; arg 1; arg 4; arg 3; whnf
 refine ⟨?_,?_⟩
|apply zd rfl
 . conv => lhs; whnf
 . conv => lhs; whnf
 . first | exact h1 | exact h2
|apply zAC rfl rfl rfl rfl
 . conv => lhs; whnf; arg 1; whnf
 . rfl
|apply zD rfl
 . conv => lhs; whnf
 . conv => lhs; whnf
 . first | rfl | assumption
 . conv => lhs; whnf; arg 2; whnf
|apply za rfl
 . conv => lhs; whnf
 . conv => lhs; whnf
 . first | rfl | assumption
 . conv => lhs; whnf
 . first | exact h1 | exact h2
|apply ze rfl
 . conv => lhs; whnf
 . conv => lhs; whnf
 . first | rfl | assumption
|apply zJ rfl
 . conv => lhs; whnf
 . conv => lhs; whnf
 . conv => lhs; whnf; arg 2; whnf
|refine zC ?_
|refine ⟨_,by conv => lhs; whnf; arg 2; whnf,?_⟩; conv => rhs; whnf
|exact trivial
|intro hg)
 all_goals first | exact Tryz.underlying4 | (simp only [beq_true] at *; simp only [*,Bool.true_and,Bool.false_and,Bool.and_true,Bool.and_false])
end Go.Proofs.YthjiclhfhjdjpaaGreatDoor
namespace Go.Proofs.YthjiclhfhjdjpaaGreatDoor
open Go.RowKit
set_option linter.unusedSectionVars false
attribute [local irreducible] wpList Calls Code.wp AW AWo OpOk seqK zx zAI loopK endK AC zm Yld Sub
attribute [local irreducible] ACB absLexG YldG
theorem selsP_ac (K f : Nat) (l : List D) (h : SelsOk K (f + 1) l) (hw : ∀ i,wideD (gD l i)) (hb : bulkL l <= 1048576) (hf : f <= 299) :
 AC EN Tryz.prog 26 [.sl 76 l] (.c (.string (bs (selsT K (f + 1) 1 l)))):=by
 have h1:=zDM K (f + 1) 1 l hw
 have h2 : (4 * (1 + (f + 1)) + 70) * bulkL l <= 1274 * 1048576:=Nat.mul_le_mul (by omega) hb
 have l1 : ACB EN Tryz.prog 55 [.bx (pn 0) 0,.sl 76 l,.c (.int .i64 1)] [.bld 110 5 []] (.tup []) [.bld 110 5 ([] ++ selsT K (f + 1) 1 l)]:=
  zJB K f 1 l [] h hw hb (by omega) (by simp only [List.length_nil]; omega)
 rw [List.nil_append] at l1
 refine zG 8 Tryz.func26 rfl rfl rfl rfl ?_
 intro s w he
 repeat' (first
|apply zJF rfl
 . conv => lhs; whnf
 . conv => lhs; whnf
 . rfl
 . rfl
 . first | exact l1
 . rfl
 . exact fun _ => rfl
 . exact fun _ => rfl
|apply s_bs rfl
 . conv => lhs; whnf
 . conv => lhs; whnf
 . rfl
 . conv => lhs; whnf; arg 1; whnf
 . exact ⟨rfl,rfl⟩
 . rfl
|refine zA ?_
|refine zB ?_
|refine zK ?_
|apply aw_1
 conv => whnf
 refine ⟨?_,trivial⟩
|apply s_1
 conv => whnf; arg 1; arg 4; arg 3; whnf
 refine ⟨?_,?_⟩
|refine zC ?_
|refine ⟨_,by conv => lhs; whnf; arg 2; whnf,?_⟩; conv => rhs; whnf
|exact trivial)
 all_goals (unfold maxLen; omega)
noncomputable def HpO (K f : Nat) (a b : List D) (i : Nat) : Vst 48:=
 stS 48 [(1,.bx 1 0),(3,.own 3 9 (zn (fun i => opB K f (gD a i)) i)),(9,.sl 57 a),(10,.c (.int .i64 a.length)),(11,.c (.int .i64 i))] [(1,.box 41 [.sl 57 a,.sl 116 b]),(3,.tok 9 (zn (fun i => opB K f (gD a i)) i).length)]
noncomputable def HpF (K f : Nat) (a b : List D) (i : Nat) : Vst 48:=
 stS 48 [(1,.bx 1 0),(3,.own 3 9 (zn (fun i => opB K f (gD a i)) a.length ++ zn (fun i => zCT K f (gD b i)) i)),(25,.sl 116 b),(26,.c (.int .i64 b.length)),(27,.c (.int .i64 i))] [(1,.box 41 [.sl 57 a,.sl 116 b]),(3,.tok 9 (zn (fun i => opB K f (gD a i)) a.length ++ zn (fun i => zCT K f (gD b i)) i).length)]
theorem DocOk.op {K f : Nat} {a b : List D} (h : DocOk K f (.obj [.list a,.list b])) {i : Nat} (hi : i < a.length) : VarsOk K ((gD a i).f 2).l /\ SelsOk K (f + 1) ((gD a i).f 3).l /\ wideD (gD a i) /\ bulkD (gD a i) <= 1048576:=
 ⟨h.vars i hi,h.sels i hi,(h.wide.f 0).l i,by
   have h1:=zk hi
   have h2:=h.bulk
   have : bulkD (.obj [.list a,.list b]) = bulkL a + bulkL b + 3:=by simp [bulkD,bulkL]; omega
   omega⟩
theorem DocOk.frg {K f : Nat} {a b : List D} (h : DocOk K f (.obj [.list a,.list b])) {i : Nat} (hi : i < b.length) : SelsOk K (f + 1) ((gD b i).f 2).l /\ wideD (gD b i) /\ bulkD (gD b i) <= 1048576:=
 ⟨h.frag i hi,(h.wide.f 1).l i,by
   have h1:=zk hi
   have h2:=h.bulk
   have : bulkD (.obj [.list a,.list b]) = bulkL a + bulkL b + 3:=by simp [bulkD,bulkL]; omega
   omega⟩
theorem fragH_bs (fr : D) : ((⟨#[102,114,97,103,109,101,110,116,32]⟩ : ByteArray) ++ (fr.f 0).s ++ ⟨#[32,111,110,32]⟩ ++ (fr.f 1).s ++ ⟨#[32,123]⟩) = bs (zEp fr):=by
 unfold zEp
 rw [<- zj,<- zj,<- zj,<- zj,zDa,zDa]
 rfl
theorem zEe (K f : Nat) (a b : List D) (h : DocOk K f (.obj [.list a,.list b])) : AC EN Tryz.prog 28 [.agg [.sl 57 a,.sl 116 b]] (.c (.string (bs (docT K (f + 1) (.obj [.list a,.list b]))))):=by
 have hbk : bulkD (.obj [.list a,.list b]) = bulkL a + bulkL b + 3:=by simp [bulkD,bulkL]; omega
 have hb0:=h.bulk
 have hdp:=h.deep
 have hla:=zt a
 have hlb:=zt b
 have hdl:=docT_len K f _ h.wide hdp
 have hj : AC EN Tryz.prog 59 [.sl 9 (zn (fun i => opB K (f + 1) (gD a i)) a.length ++ zn (fun i => zCT K (f + 1) (gD b i)) b.length),.c (.string ⟨#[10]⟩)] (.c (.string (bs (docT K (f + 1) (.obj [.list a,.list b]))))):=by
  have e : txs (zn (fun i => opB K (f + 1) (gD a i)) a.length ++ zn (fun i => zCT K (f + 1) (gD b i)) b.length) = a.map (opB K (f + 1)) ++ b.map (zCT K (f + 1)):=by
   have h1:=zAj (opB K (f + 1)) a
   have h2:=zAj (zCT K (f + 1)) b
   unfold txs at h1 h2 |-
   rw [List.map_append,h1,h2]
  have:=zC4 (zn (fun i => opB K (f + 1) (gD a i)) a.length ++ zn (fun i => zCT K (f + 1) (gD b i)) b.length) [10] (by rw [List.length_append,zAH,zAH]; omega) (by rw [e]; exact Nat.le_trans hdl (by omega))
  rw [e] at this
  exact this
 refine zG 48 Tryz.func28 rfl rfl rfl rfl ?_
 intro s w he
 repeat' (first
|refine zA ?_
|refine zB ?_
|refine zK ?_
|apply aw_1
 conv => whnf
 refine ⟨?_,trivial⟩
|apply s_1
 conv => whnf; arg 1; arg 4; arg 3; whnf
 refine ⟨?_,?_⟩
|apply zAC rfl rfl rfl rfl
 . conv => lhs; whnf; arg 1; whnf
 . rfl
|exact trivial)
 refine zW (Sub.own (t:=3) (e:=9) rfl rfl) ?_
 refine zV (fun j st => ∃ i,i + j = a.length /\ Sub (cx EN Tryz.prog s w he) st (HpO K (f + 1) a b i)) a.length ⟨0,by omega,Sub.live ⟨rfl,rfl,rfl,rfl,rfl,trivial⟩ ⟨rfl,rfl,trivial⟩⟩ ?_
 rintro j st ⟨i,hij,hs2⟩
 refine zW hs2 ?_
 clear hs2
 have htk:=zAH (fun i => opB K (f + 1) (gD a i)) i
 by_cases hi : i < a.length
 . have f0 : decide ((i : Int) < (a.length : Nat)) = true:=decide_eq_true (by omega)
   obtain ⟨o1,o2,o3,o4⟩:=h.op hi
   have hn:=z8 ((gD a i).f 1)
   have hnn:=wD_f (gD a i) 1
   have hn3:=wD_f (gD a i) 3
   have hl3:=zi ((gD a i).f 3)
   have hbd:=zZ (gD a i)
   have hhd:=opHead_ac K (gD a i) o1 (by omega)
   have hol:=opT_len K (gD a i) o3
   have hv2:=wD_f (gD a i) 2
   have hl2:=zi ((gD a i).f 2)
   have hbl : AC EN Tryz.prog 57 [.c (.string (bs (opT K (gD a i)))),.sl 76 ((gD a i).f 3).l] (.c (.string (bs (opB K (f + 1) (gD a i))))):=
    zJ2 K f (opT K (gD a i)) ((gD a i).f 3).l o2 (fun q => (o3.f 3).l q) (by omega) hdp (by omega)
   repeat' (first
|apply zU
 . conv => lhs; whnf
 . assumption
|refine zA ?_
|refine zB ?_
|refine zK ?_
|refine zb ?_
|apply aw_1
 conv => whnf
 refine ⟨?_,trivial⟩
|apply s_1
 conv => whnf; arg 1; arg 4; arg 3; whnf
 refine ⟨?_,?_⟩
|apply zY rfl rfl rfl
 . conv => lhs; whnf
 . conv => lhs; whnf; arg 1; whnf
 . conv => lhs; whnf; arg 1; whnf
 . exact ⟨by kernel_rfl,by kernel_rfl⟩
 . rfl
|apply zAb (by kernel_rfl) (by kernel_rfl)
|apply zCE
|apply zCD rfl
 . conv => lhs; whnf
 . conv => lhs; whnf; arg 2; whnf
|apply zDC rfl
 . conv => lhs; whnf
 . conv => lhs; whnf
 . first | exact hhd | exact hbl
|apply y_app rfl rfl
 . conv => lhs; whnf
 . first | exact zAP | (conv => lhs; whnf; arg 1; whnf)
 . first | exact fun _ => rfl | (intro _; kernel_rfl)
 . conv => lhs; whnf
 . rfl
 . rfl
 . conv => lhs; whnf; arg 1; whnf
 . conv => lhs; whnf
|apply zIr rfl rfl
 . conv => lhs; whnf
 . first | exact zAP | (conv => lhs; whnf; arg 1; whnf)
 . conv => lhs; whnf; arg 1; whnf
 . rfl
 . rfl
|exact zr
|show zB5 _ _ = true; rfl
|exact trivial)
   all_goals first
    | exact zT (by omega)
    | exact zAm hi
    | exact zDf (by omega) (by omega)
    | skip
   refine zH (j':=j - 1) (by omega) ⟨i + 1,by omega,Sub.live ⟨rfl,?_,rfl,rfl,rfl,trivial⟩ ⟨rfl,?_,trivial⟩⟩
   . show V.own 3 _ (zn _ i ++ [.str (bs _)]) = _
     rw [zq]
   . show some (Res.tok _ ((zn _ i).length + 1)) = _
     rw [zq,List.length_append]; rfl
 . have f0 : decide ((i : Int) < (a.length : Nat)) = false:=decide_eq_false (by omega)
   obtain rfl : i = a.length:=by omega
   repeat' (first
|apply zL
 . conv => lhs; whnf
 . assumption
|refine zA ?_
|refine zB ?_
|refine zK ?_
|apply aw_1
 conv => whnf
 refine ⟨?_,trivial⟩
|apply s_1
 conv => whnf; arg 1; arg 4; arg 3; whnf
 refine ⟨?_,?_⟩
|refine zI ?_
|refine zE rfl ?_
|refine zF ?_
|exact trivial)
   refine zV (fun j st => ∃ i,i + j = b.length /\ Sub (cx EN Tryz.prog s w he) st (HpF K (f + 1) a b i)) b.length ⟨0,by omega,Sub.live ⟨rfl,?_,rfl,rfl,rfl,trivial⟩ ⟨rfl,?_,trivial⟩⟩ ?_
   . show V.own 3 _ (zn _ a.length) = V.own 3 _ (zn _ a.length ++ [])
     rw [List.append_nil]
   . show some (Res.tok _ (zn _ a.length).length) = some (Res.tok _ (zn _ a.length ++ []).length)
     rw [List.append_nil]
   rintro j2 st2 ⟨q,hqj,hs3⟩
   refine zW hs3 ?_
   clear hs3
   have htk2:=zAH (fun i => zCT K (f + 1) (gD b i)) q
   have hap : (zn (fun i => opB K (f + 1) (gD a i)) a.length ++ zn (fun i => zCT K (f + 1) (gD b i)) q).length = a.length + q:=by rw [List.length_append,htk,htk2]
   by_cases hq : q < b.length
   . have f2 : decide ((q : Int) < (b.length : Nat)) = true:=decide_eq_true (by omega)
     obtain ⟨o2,o3,o4⟩:=h.frg hq
     have hn0:=z8 ((gD b q).f 0)
     have hn1:=z8 ((gD b q).f 1)
     have hf0:=wD_f (gD b q) 0
     have hf1:=wD_f (gD b q) 1
     have hf2:=wD_f (gD b q) 2
     have hl2:=zi ((gD b q).f 2)
     have hbd:=zZ (gD b q)
     have t0:=zAG ((gD b q).f 0).s
     have t1:=zAG ((gD b q).f 1).s
     have hlen : (zEp (gD b q)).length = 15 + ((gD b q).f 0).s.size + ((gD b q).f 1).s.size:=by simp only [zEp,List.length_append,List.length_cons,List.length_nil]; omega
     have hbl : AC EN Tryz.prog 57 [.c (.string ((⟨#[102,114,97,103,109,101,110,116,32]⟩ : ByteArray) ++ ((gD b q).f 0).s ++ ⟨#[32,111,110,32]⟩ ++ ((gD b q).f 1).s ++ ⟨#[32,123]⟩)),.sl 76 ((gD b q).f 2).l] (.c (.string (bs (zCT K (f + 1) (gD b q))))):=by
      rw [fragH_bs]
      exact zJ2 K f (zEp (gD b q)) ((gD b q).f 2).l o2 (fun z => (o3.f 2).l z) (by omega) hdp (by omega)
     repeat' (first
|apply zU
 . conv => lhs; whnf
 . assumption
|refine zA ?_
|refine zB ?_
|refine zK ?_
|refine zb ?_
|apply aw_1
 conv => whnf
 refine ⟨?_,trivial⟩
|apply s_1
 conv => whnf; arg 1; arg 4; arg 3; whnf
 refine ⟨?_,?_⟩
|apply zd rfl
 . conv => lhs; whnf
 . conv => lhs; whnf
 . first | exact hbl
|apply zY rfl rfl rfl
 . conv => lhs; whnf
 . conv => lhs; whnf; arg 1; whnf
 . conv => lhs; whnf; arg 1; whnf
 . exact ⟨by kernel_rfl,by kernel_rfl⟩
 . rfl
|apply zDk rfl rfl
 . conv => lhs; whnf
 . first | exact zAP | (conv => lhs; whnf; arg 1; whnf)
 . first | exact fun _ => rfl | (intro _; kernel_rfl)
 . conv => lhs; whnf
 . conv => lhs; whnf; arg 1; whnf
 . conv => lhs; whnf
|apply zFL rfl rfl
 . conv => lhs; whnf
 . first | exact zAP | (conv => lhs; whnf; arg 1; whnf)
 . conv => lhs; whnf; arg 1; whnf
 . rfl
 . rfl
|exact trivial)
     all_goals first
      | exact zT (by omega)
      | exact zAm hq
      | exact zDf (by omega) (by omega)
      | ((simp only [ByteArray.size_append,zg,z7,List.size_toArray,List.length_append,List.length_cons,List.length_nil,maxLen,Nat.reduceAdd,Int.toNat_natCast]; omega); done)
      | skip
     refine zH (j':=j2 - 1) (by omega) ⟨q + 1,by omega,Sub.live ⟨rfl,?_,rfl,rfl,rfl,trivial⟩ ⟨rfl,?_,trivial⟩⟩
     . show V.own 3 _ (zn _ a.length ++ zn _ q ++ [.str (bs _)]) = V.own 3 _ (zn _ a.length ++ zn _ (q + 1))
       rw [zq,List.append_assoc]
     . show some (Res.tok _ ((zn _ a.length ++ zn _ q).length + 1)) = some (Res.tok _ (zn _ a.length ++ zn _ (q + 1)).length)
       rw [zq,<- List.append_assoc,List.length_append (bs:=[_])]; rfl
   . have f2 : decide ((q : Int) < (b.length : Nat)) = false:=decide_eq_false (by omega)
     obtain rfl : q = b.length:=by omega
     repeat' (first
|apply zL
 . conv => lhs; whnf
 . assumption
|refine zA ?_
|refine zB ?_
|refine zK ?_
|apply aw_1
 conv => whnf
 refine ⟨?_,trivial⟩
|apply s_1
 conv => whnf; arg 1; arg 4; arg 3; whnf
 refine ⟨?_,?_⟩
|apply zd rfl
 . conv => lhs; whnf
 . conv => lhs; whnf
 . first | exact hj
|refine zI ?_
|refine zE rfl ?_
|refine zF ?_
|refine zC ?_
|refine ⟨_,by conv => lhs; whnf; arg 2; whnf,?_⟩; conv => rhs; whnf
|exact trivial)
end Go.Proofs.YthjiclhfhjdjpaaGreatDoor
