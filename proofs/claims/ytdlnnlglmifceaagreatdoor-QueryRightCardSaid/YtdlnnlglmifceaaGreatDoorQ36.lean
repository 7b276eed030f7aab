import Derived.LoopN
import Derived.Test.YtdlnnlglmifceaaGreatDoorQ35
set_option maxHeartbeats 20000000
set_option maxRecDepth 100000
set_option linter.unusedVariables false
set_option linter.unusedSimpArgs false
namespace Go.Proofs.YtdlnnlglmifceaaGreatDoor
open Go.RowKit
attribute [local irreducible] wpList Calls Code.wp
section
variable {X : Cx} {nn : Nat}
def rndK (R : Vst nn -> Prop) (K : Exit -> Vst nn -> Prop) : Exit -> Vst nn -> Prop
 | .normal,st => R st
 | e,st => K e st
def rnd (X : Cx) (c : Code) (K : Exit -> Vst nn -> Prop) : Nat -> Vst nn -> Prop
 | 0,_ => False
 | n + 1,st => AW X c st (rndK (rnd X c K n) K)
theorem zGB {c : Code} {K : Exit -> Vst nn -> Prop} : ∀ (n : Nat) (st : Vst nn) (s : Sg) (w : World) (a : Act),rnd X c K n st -> Inv X st s w a ->
 Code.rounds X.P c (fun e a' w' => ∃ (st' : Vst nn) (s' : Sg),Inv X st' s' w' a' /\ (K e st' \/ PX X e st')) n a w
 | 0,_,_,_,_,h,_ => h.elim
 | n + 1,st,s,w,a,h,hI => by
   rw [rounds_succ]
   refine Code.wp_mono (fun e a2 w2 ⟨st2,s2,hI2,hK⟩ => ?_) (h s w a hI)
   rcases hK with hK | ⟨pv,rfl,hp⟩
   . cases e
     case normal => exact zGB n st2 s2 w2 a2 hK hI2
     all_goals exact ⟨st2,s2,hI2,.inl hK⟩
   . exact ⟨st2,s2,hI2,.inr ⟨pv,rfl,hp⟩⟩
theorem zAe {c : Code} {st : Vst nn} {K : Exit -> Vst nn -> Prop} (n : Nat) (h : AW X c st (rndK (rnd X c K n) K)) : AW X (.loop c) st K:=fun s w a hI =>
 wp_loop_rounds (n + 1) (zGB (n + 1) st s w a h hI)
section
variable {st : Vst nn} {K : Exit -> Vst nn -> Prop} {c : Code}
theorem k_rnd {n : Nat} (h : AW X c st (rndK (rnd X c K n) K)) : rndK (rnd X c K (n + 1)) K .normal st:=h
theorem zAb {R : Vst nn -> Prop} {id : Nat} (h : K (.exit id) st) : rndK R K (.exit id) st:=h
end
end
end Go.Proofs.YtdlnnlglmifceaaGreatDoor
namespace Go.Proofs.YtdlnnlglmifceaaGreatDoor
open Go.RowKit
set_option linter.unusedSectionVars false
attribute [local irreducible] wpList Calls Code.wp AW AWo OpOk seqK zAP zAR loopK endK AC zy Yld Sub
attribute [local irreducible] ACB ACX ACE absLexG YldG rnd
theorem zAi (s : ByteArray) (hs : s.size <= 100) (h : nameB s = true) : AC EN5 Tryz.prog 18 [.c (.string s)] (.c (.bool true)):=by
 refine zDB (u:=.bool true) fun σ w us hus he => ?_
 obtain ⟨rfl,-⟩:=zD3 hus
 refine ⟨fun s' w' => rel_b,(nameP s w (by omega)).mono ?_⟩
 rintro e w' ⟨rfl,rfl⟩
 rw [h]
 exact ⟨rfl,Below.refl _ _⟩
def eV : D:=.obj [.int 7,.int 0,.str ⟨#[110]⟩,.list [],.list []]
def eI : D:=.obj [.int 2,.int 1,.str ⟨#[]⟩,.list [],.list []]
def eA : D:=.obj [.str ⟨#[105,100]⟩,eV]
def eT : D:=.obj [.str ⟨#[73,110,116]⟩,.list []]
def eW : D:=.obj [.str ⟨#[110]⟩,eT,.bool true,eI]
def eSel (k : Int) (a n : ByteArray) (g : List D) (l : List D) : D:=.obj [.int k,.str a,.str n,.str ⟨#[]⟩,.list g,.list [],.list l]
def e1 : D:=eSel 1 ⟨#[]⟩ ⟨#[105,100]⟩ [] []
def e2 : D:=eSel 1 ⟨#[]⟩ ⟨#[110,97,109,101]⟩ [] []
def e3 : D:=eSel 2 ⟨#[]⟩ ⟨#[102]⟩ [] []
def e4 : D:=eSel 1 ⟨#[97]⟩ ⟨#[117,115,101,114]⟩ [eA] [e2,e3]
def eO : D:=.obj [.int 1,.str ⟨#[113]⟩,.list [eW],.list [e4]]
def eF : D:=.obj [.str ⟨#[102]⟩,.str ⟨#[85,115,101,114]⟩,.list [e1]]
theorem size_z : AC EN5 Tryz.prog 84 [.agg (cellsV Tryz.prog 12 62 eV)] (.c (.int .i64 1)) /\ AC EN5 Tryz.prog 84 [.agg (cellsV Tryz.prog 12 62 eI)] (.c (.int .i64 1)):=by
 refine ⟨?_,?_⟩
 all_goals
  refine zX 19 Tryz.func84 rfl rfl rfl rfl ?_
  intro s w he
  repeat' (first
|apply zAe 7
|refine zAb ?_
|apply zS
 . conv => lhs; whnf
 . decide +kernel
|refine zA ?_
|refine zI ?_
|refine zb ?_
|apply aw_1
 conv => whnf
 refine ⟨?_,trivial⟩
|apply s_1
 conv => whnf; arg 1; arg 4; arg 3; whnf
 refine ⟨?_,?_⟩
|apply zAC rfl rfl rfl rfl
 . conv => lhs; whnf; arg 1; whnf
 . rfl
|refine zG ?_
|refine zB rfl ?_
|refine zH ?_
|refine ⟨_,by conv => lhs; whnf; arg 2; whnf,?_⟩; conv => rhs; whnf
|exact trivial)
 all_goals first
  | exact absurd ‹(true == true) = false› (by decide)
  | rfl
  | exact zo (by decide)
  | exact ⟨rfl,trivial⟩
  | exact congrArg (fun b => V.c (.bool b)) (by decide +kernel)
  | (constructor <;> decide)
theorem depth_z : AC EN5 Tryz.prog 85 [.agg (cellsV Tryz.prog 12 62 eV)] (.c (.int .i64 1)) /\ AC EN5 Tryz.prog 85 [.agg (cellsV Tryz.prog 12 62 eI)] (.c (.int .i64 1)):=by
 refine ⟨?_,?_⟩
 all_goals
  refine zX 20 Tryz.func85 rfl rfl rfl rfl ?_
  intro s w he
  repeat' (first
|apply zAe 7
|refine zAb ?_
|apply zS
 . conv => lhs; whnf
 . decide +kernel
|refine zA ?_
|refine zI ?_
|refine zb ?_
|apply aw_1
 conv => whnf
 refine ⟨?_,trivial⟩
|apply s_1
 conv => whnf; arg 1; arg 4; arg 3; whnf
 refine ⟨?_,?_⟩
|apply zAC rfl rfl rfl rfl
 . conv => lhs; whnf; arg 1; whnf
 . rfl
|refine zG ?_
|refine zB rfl ?_
|refine zH ?_
|refine ⟨_,by conv => lhs; whnf; arg 2; whnf,?_⟩; conv => rhs; whnf
|exact trivial)
 all_goals first
  | exact absurd ‹(true == true) = false› (by decide)
  | rfl
  | exact zo (by decide)
  | exact ⟨rfl,trivial⟩
  | exact congrArg (fun b => V.c (.bool b)) (by decide +kernel)
  | (constructor <;> decide)
theorem idxE_z : ACB EN5 Tryz.prog 126 [.sl 62 [],.clo 125 [.bx (pn 0) 0]] [.box 4 [.c (.bool true)]] (.c (.int .i64 (-1))) [.box 4 [.c (.bool true)]]:=by
 refine zAM (fn:=Tryz.f126) 19 Tryz.func126 rfl rfl ?_
 intro pas w0 w he hpp
 repeat' (first
|apply zAe 7
|refine zAb ?_
|apply zS
 . conv => lhs; whnf
 . decide +kernel
|refine zA ?_
|refine zI ?_
|refine zb ?_
|apply aw_1
 conv => whnf
 refine ⟨?_,trivial⟩
|apply s_1
 conv => whnf; arg 1; arg 4; arg 3; whnf
 refine ⟨?_,?_⟩
|refine zG ?_
|refine zB rfl ?_
|refine zAh ⟨?_,?_⟩
|refine ⟨_,by conv => lhs; whnf; arg 2; whnf,?_⟩; conv => rhs; whnf
|exact trivial)
 all_goals first
  | exact absurd ‹(true == true) = false› (by decide)
  | rfl
  | exact zo (by decide)
  | exact ⟨rfl,trivial⟩
  | exact congrArg (fun b => V.c (.bool b)) (by decide +kernel)
  | (constructor <;> decide)
theorem hasE_z : ACB EN5 Tryz.prog 87 [.sl 62 [],.clo 125 [.bx (pn 0) 0]] [.box 4 [.c (.bool true)]] (.c (.bool false)) [.box 4 [.c (.bool true)]]:=by
 have h:=idxE_z
 refine zAM (fn:=Tryz.f87) 9 Tryz.func87 rfl rfl ?_
 intro pas w0 w he hpp
 repeat' (first
|apply zAt (m:=pn 0) rfl
 . conv => lhs; whnf
 . conv => lhs; whnf
 . rfl
 . conv => lhs; whnf; arg 1; whnf
 . exact fun _ => rfl
 . first | exact h
 . exact fun _ => rfl
 . exact fun _ => rfl
 . exact fun _ => rfl
|refine zA ?_
|refine zI ?_
|refine zb ?_
|apply aw_1
 conv => whnf
 refine ⟨?_,trivial⟩
|apply s_1
 conv => whnf; arg 1; arg 4; arg 3; whnf
 refine ⟨?_,?_⟩
|refine zAh ⟨?_,?_⟩
|refine ⟨_,by conv => lhs; whnf; arg 2; whnf,?_⟩; conv => rhs; whnf
|exact trivial)
 all_goals first
  | exact absurd ‹(true == true) = false› (by decide)
  | rfl
  | exact zo (by decide)
  | exact ⟨rfl,trivial⟩
  | exact congrArg (fun b => V.c (.bool b)) (by decide +kernel)
  | (constructor <;> decide)
theorem node_z : AC EN5 Tryz.prog 124 [.agg (cellsV Tryz.prog 12 62 eV),.c (.bool true)] (.c (.bool true)) /\ AC EN5 Tryz.prog 124 [.agg (cellsV Tryz.prog 12 62 eI),.c (.bool true)] (.c (.bool true)):=by
 refine ⟨?_,?_⟩
 all_goals
  refine zX 137 Tryz.func124 rfl rfl rfl rfl ?_
  intro s w he
  repeat' (first
|apply zq rfl rfl rfl
 . conv => lhs; whnf
 . first | rfl | assumption | decide +kernel
 . conv => lhs; whnf
 . first | decide +kernel | rfl
|apply zu rfl rfl rfl
 . conv => lhs; whnf
 . first | rfl | assumption | decide +kernel
 . conv => lhs; whnf
 . first | decide +kernel | rfl
|apply zW
 . conv => lhs; whnf
 . decide +kernel
|apply zS
 . conv => lhs; whnf
 . decide +kernel
|refine zA ?_
|refine zI ?_
|refine zb ?_
|apply aw_1
 conv => whnf
 refine ⟨?_,trivial⟩
|apply zg rfl rfl
 . conv => lhs; whnf
 . conv => lhs; whnf
 . first | decide +kernel
|apply ze rfl rfl
 . conv => lhs; whnf
 . conv => lhs; whnf
 . first | decide +kernel
|apply s_1
 conv => whnf; arg 1; arg 4; arg 3; whnf
 refine ⟨?_,?_⟩
|apply zAC rfl rfl rfl rfl
 . conv => lhs; whnf; arg 1; whnf
 . rfl
|apply zM rfl
 . conv => lhs; whnf
 . conv => lhs; whnf
 . first | rfl | assumption | decide +kernel
 . conv => lhs; whnf; arg 2; whnf
|apply zR rfl
 . conv => lhs; whnf
 . conv => lhs; whnf
 . first | rfl | assumption | decide +kernel
 . conv => lhs; whnf
 . first | exact zAi _ (by decide) (by kernel_rfl)
|refine zK ?_
|refine zC ?_
|refine zH ?_
|refine ⟨_,by conv => lhs; whnf; arg 2; whnf,?_⟩; conv => rhs; whnf
|exact trivial)
 all_goals first
  | exact absurd ‹(true == true) = false› (by decide)
  | rfl
  | exact zo (by decide)
  | exact ⟨rfl,trivial⟩
  | exact congrArg (fun b => V.c (.bool b)) (by decide +kernel)
  | (constructor <;> decide)
theorem every_z : AC EN5 Tryz.prog 86 [.agg (cellsV Tryz.prog 12 62 eV),.c (.bool true)] (.c (.bool true)) /\ AC EN5 Tryz.prog 86 [.agg (cellsV Tryz.prog 12 62 eI),.c (.bool true)] (.c (.bool true)):=by
 have h:=node_z
 have hc:=hasE_z
 refine ⟨?_,?_⟩
 all_goals
  refine zX 15 Tryz.func86 rfl rfl rfl rfl ?_
  intro s w he
  repeat' (first
|apply zAg (m:=3) rfl
 . conv => lhs; whnf
 . conv => lhs; whnf
 . conv => lhs; whnf
 . rfl
 . conv => lhs; whnf; arg 1; whnf
 . exact fun _ => rfl
 . first | exact hc
 . exact fun _ => rfl
 . exact fun _ => rfl
 . exact fun _ => rfl
|refine zA ?_
|refine zI ?_
|refine zb ?_
|apply aw_1
 conv => whnf
 refine ⟨?_,trivial⟩
|apply zg rfl rfl
 . conv => lhs; whnf
 . conv => lhs; whnf
 . first | decide +kernel
|apply s_1
 conv => whnf; arg 1; arg 4; arg 3; whnf
 refine ⟨?_,?_⟩
|apply zd rfl
 . conv => lhs; whnf
 . conv => lhs; whnf
 . first | exact h.1 | exact h.2
|apply zAC rfl rfl rfl rfl
 . conv => lhs; whnf; arg 1; whnf
 . rfl
|apply zl rfl
 . conv => lhs; whnf
 . conv => lhs; whnf
 . first | rfl | assumption | decide +kernel
|refine zH ?_
|refine ⟨_,by conv => lhs; whnf; arg 2; whnf,?_⟩; conv => rhs; whnf
|exact trivial
|intro hg)
 all_goals first
  | exact absurd ‹(true == true) = false› (by decide)
  | rfl
  | exact zo (by decide)
  | exact ⟨rfl,trivial⟩
  | exact congrArg (fun b => V.c (.bool b)) (by decide +kernel)
  | (constructor <;> decide)
theorem lit_z : AC EN5 Tryz.prog 47 [.agg (cellsV Tryz.prog 12 62 eV)] (.c (.bool true)) /\ AC EN5 Tryz.prog 47 [.agg (cellsV Tryz.prog 12 62 eI)] (.c (.bool true)):=by
 have h1:=size_z
 have h2:=depth_z
 have h3:=every_z
 refine ⟨?_,?_⟩
 all_goals
  refine zX 15 Tryz.func47 rfl rfl rfl rfl ?_
  intro s w he
  repeat' (first
|refine zA ?_
|refine zI ?_
|refine zb ?_
|apply aw_1
 conv => whnf
 refine ⟨?_,trivial⟩
|apply zg rfl rfl
 . conv => lhs; whnf
 . conv => lhs; whnf
 . first | decide +kernel
|apply s_1
 conv => whnf; arg 1; arg 4; arg 3; whnf
 refine ⟨?_,?_⟩
|apply zd rfl
 . conv => lhs; whnf
 . conv => lhs; whnf
 . first | exact h1.1 | exact h1.2 | exact h2.1 | exact h2.2 | exact h3.1 | exact h3.2
|apply zAC rfl rfl rfl rfl
 . conv => lhs; whnf; arg 1; whnf
 . rfl
|apply zR rfl
 . conv => lhs; whnf
 . conv => lhs; whnf
 . first | rfl | assumption | decide +kernel
 . conv => lhs; whnf
 . first | exact h1.1 | exact h1.2 | exact h2.1 | exact h2.2 | exact h3.1 | exact h3.2
|refine zH ?_
|refine ⟨_,by conv => lhs; whnf; arg 2; whnf,?_⟩; conv => rhs; whnf
|exact trivial)
 all_goals first
  | exact absurd ‹(true == true) = false› (by decide)
  | rfl
  | exact zo (by decide)
  | exact ⟨rfl,trivial⟩
  | exact congrArg (fun b => V.c (.bool b)) (by decide +kernel)
  | (constructor <;> decide)
theorem idxB_z : AC EN5 Tryz.prog 126 [.sl 62 [],.c (.func (.func 88) #[] #[])] (.c (.int .i64 (-1))):=by
 refine zX 19 Tryz.func126 rfl rfl rfl rfl ?_
 intro s w he
 repeat' (first
|apply zAe 7
|refine zAb ?_
|apply zS
 . conv => lhs; whnf
 . decide +kernel
|refine zA ?_
|refine zI ?_
|refine zb ?_
|apply aw_1
 conv => whnf
 refine ⟨?_,trivial⟩
|apply s_1
 conv => whnf; arg 1; arg 4; arg 3; whnf
 refine ⟨?_,?_⟩
|refine zG ?_
|refine zB rfl ?_
|refine zH ?_
|refine ⟨_,by conv => lhs; whnf; arg 2; whnf,?_⟩; conv => rhs; whnf
|exact trivial)
 all_goals first
  | exact absurd ‹(true == true) = false› (by decide)
  | rfl
  | exact zo (by decide)
  | exact ⟨rfl,trivial⟩
  | exact congrArg (fun b => V.c (.bool b)) (by decide +kernel)
  | (constructor <;> decide)
theorem hasB_z : AC EN5 Tryz.prog 87 [.sl 62 [],.c (.func (.func 88) #[] #[])] (.c (.bool false)):=by
 have h:=idxB_z
 refine zX 9 Tryz.func87 rfl rfl rfl rfl ?_
 intro s w he
 repeat' (first
|refine zA ?_
|refine zI ?_
|refine zb ?_
|apply aw_1
 conv => whnf
 refine ⟨?_,trivial⟩
|apply s_1
 conv => whnf; arg 1; arg 4; arg 3; whnf
 refine ⟨?_,?_⟩
|apply zd rfl
 . conv => lhs; whnf
 . conv => lhs; whnf
 . first | exact h
|refine zH ?_
|refine ⟨_,by conv => lhs; whnf; arg 2; whnf,?_⟩; conv => rhs; whnf
|exact trivial)
 all_goals first
  | exact absurd ‹(true == true) = false› (by decide)
  | rfl
  | exact zo (by decide)
  | exact ⟨rfl,trivial⟩
  | exact congrArg (fun b => V.c (.bool b)) (by decide +kernel)
  | (constructor <;> decide)
theorem bare_z : AC EN5 Tryz.prog 48 [.agg (cellsV Tryz.prog 12 62 eI)] (.c (.bool true)):=by
 have h:=hasB_z
 refine zX 12 Tryz.func48 rfl rfl rfl rfl ?_
 intro s w he
 repeat' (first
|refine zA ?_
|refine zI ?_
|refine zb ?_
|apply aw_1
 conv => whnf
 refine ⟨?_,trivial⟩
|apply zg rfl rfl
 . conv => lhs; whnf
 . conv => lhs; whnf
 . first | decide +kernel
|apply s_1
 conv => whnf; arg 1; arg 4; arg 3; whnf
 refine ⟨?_,?_⟩
|apply zAC rfl rfl rfl rfl
 . conv => lhs; whnf; arg 1; whnf
 . rfl
|apply zR rfl
 . conv => lhs; whnf
 . conv => lhs; whnf
 . first | rfl | assumption | decide +kernel
 . conv => lhs; whnf
 . first | exact h
|refine zH ?_
|refine ⟨_,by conv => lhs; whnf; arg 2; whnf,?_⟩; conv => rhs; whnf
|exact trivial)
 all_goals first
  | exact absurd ‹(true == true) = false› (by decide)
  | rfl
  | exact zo (by decide)
  | exact ⟨rfl,trivial⟩
  | exact congrArg (fun b => V.c (.bool b)) (by decide +kernel)
  | (constructor <;> decide)
theorem arg1_z : AC EN5 Tryz.prog 128 [.agg (cellsV Tryz.prog 12 68 eA)] (.c (.bool false)):=by
 have h:=lit_z.1
 refine zX 13 Tryz.func128 rfl rfl rfl rfl ?_
 intro s w he
 repeat' (first
|refine zA ?_
|refine zI ?_
|refine zb ?_
|apply aw_1
 conv => whnf
 refine ⟨?_,trivial⟩
|apply ze rfl rfl
 . conv => lhs; whnf
 . conv => lhs; whnf
 . first | decide +kernel
|apply s_1
 conv => whnf; arg 1; arg 4; arg 3; whnf
 refine ⟨?_,?_⟩
|apply zd rfl
 . conv => lhs; whnf
 . conv => lhs; whnf
 . first | exact zAi _ (by decide) (by kernel_rfl) | exact h
|apply zAC rfl rfl rfl rfl
 . conv => lhs; whnf; arg 1; whnf
 . rfl
|apply zR rfl
 . conv => lhs; whnf
 . conv => lhs; whnf
 . first | rfl | assumption | decide +kernel
 . conv => lhs; whnf
 . first | exact zAi _ (by decide) (by kernel_rfl) | exact h
|refine zH ?_
|refine ⟨_,by conv => lhs; whnf; arg 2; whnf,?_⟩; conv => rhs; whnf
|exact trivial)
 all_goals first
  | exact absurd ‹(true == true) = false› (by decide)
  | rfl
  | exact zo (by decide)
  | exact ⟨rfl,trivial⟩
  | exact congrArg (fun b => V.c (.bool b)) (by decide +kernel)
  | (constructor <;> decide)
theorem idxA_z : AC EN5 Tryz.prog 161 [.sl 68 [],.c (.func (.func 128) #[] #[])] (.c (.int .i64 (-1))) /\ AC EN5 Tryz.prog 161 [.sl 68 [eA],.c (.func (.func 128) #[] #[])] (.c (.int .i64 (-1))):=by
 refine ⟨?_,?_⟩
 all_goals
  refine zX 19 Tryz.func161 rfl rfl rfl rfl ?_
  intro s w he
  repeat' (first
|apply zAe 7
|refine k_rnd ?_
|refine zAb ?_
|apply zW
 . conv => lhs; whnf
 . decide +kernel
|apply zS
 . conv => lhs; whnf
 . decide +kernel
|refine zA ?_
|refine zI ?_
|refine zb ?_
|refine zU ?_
|apply aw_1
 conv => whnf
 refine ⟨?_,trivial⟩
|apply s_1
 conv => whnf; arg 1; arg 4; arg 3; whnf
 refine ⟨?_,?_⟩
|apply zd rfl
 . conv => lhs; whnf
 . conv => lhs; whnf
 . first | exact arg1_z
|refine zG ?_
|refine zB rfl ?_
|refine zH ?_
|refine ⟨_,by conv => lhs; whnf; arg 2; whnf,?_⟩; conv => rhs; whnf
|exact trivial)
 all_goals first
  | exact absurd ‹(true == true) = false› (by decide)
  | rfl
  | exact zo (by decide)
  | exact ⟨rfl,trivial⟩
  | exact congrArg (fun b => V.c (.bool b)) (by decide +kernel)
  | (constructor <;> decide)
theorem hasA_z : AC EN5 Tryz.prog 127 [.sl 68 [],.c (.func (.func 128) #[] #[])] (.c (.bool false)) /\ AC EN5 Tryz.prog 127 [.sl 68 [eA],.c (.func (.func 128) #[] #[])] (.c (.bool false)):=by
 have h:=idxA_z
 refine ⟨?_,?_⟩
 all_goals
  refine zX 9 Tryz.func127 rfl rfl rfl rfl ?_
  intro s w he
  repeat' (first
|refine zA ?_
|refine zI ?_
|refine zb ?_
|apply aw_1
 conv => whnf
 refine ⟨?_,trivial⟩
|apply s_1
 conv => whnf; arg 1; arg 4; arg 3; whnf
 refine ⟨?_,?_⟩
|apply zd rfl
 . conv => lhs; whnf
 . conv => lhs; whnf
 . first | exact h.1 | exact h.2
|refine zH ?_
|refine ⟨_,by conv => lhs; whnf; arg 2; whnf,?_⟩; conv => rhs; whnf
|exact trivial)
 all_goals first
  | exact absurd ‹(true == true) = false› (by decide)
  | rfl
  | exact zo (by decide)
  | exact ⟨rfl,trivial⟩
  | exact congrArg (fun b => V.c (.bool b)) (by decide +kernel)
  | (constructor <;> decide)
theorem args_z : AC EN5 Tryz.prog 90 [.sl 68 []] (.c (.bool true)) /\ AC EN5 Tryz.prog 90 [.sl 68 [eA]] (.c (.bool true)):=by
 have h:=hasA_z
 refine ⟨?_,?_⟩
 all_goals
  refine zX 11 Tryz.func90 rfl rfl rfl rfl ?_
  intro s w he
  repeat' (first
|refine zA ?_
|refine zI ?_
|refine zb ?_
|apply aw_1
 conv => whnf
 refine ⟨?_,trivial⟩
|apply zg rfl rfl
 . conv => lhs; whnf
 . conv => lhs; whnf
 . first | decide +kernel
|apply s_1
 conv => whnf; arg 1; arg 4; arg 3; whnf
 refine ⟨?_,?_⟩
|apply zR rfl
 . conv => lhs; whnf
 . conv => lhs; whnf
 . first | rfl | assumption | decide +kernel
 . conv => lhs; whnf
 . first | exact h.1 | exact h.2
|refine zH ?_
|refine ⟨_,by conv => lhs; whnf; arg 2; whnf,?_⟩; conv => rhs; whnf
|exact trivial)
 all_goals first
  | exact absurd ‹(true == true) = false› (by decide)
  | rfl
  | exact zo (by decide)
  | exact ⟨rfl,trivial⟩
  | exact congrArg (fun b => V.c (.bool b)) (by decide +kernel)
  | (constructor <;> decide)
theorem idxD_z : AC EN5 Tryz.prog 162 [.sl 129 [],.c (.func (.func 130) #[] #[])] (.c (.int .i64 (-1))):=by
 refine zX 19 Tryz.func162 rfl rfl rfl rfl ?_
 intro s w he
 repeat' (first
|apply zAe 7
|refine zAb ?_
|apply zS
 . conv => lhs; whnf
 . decide +kernel
|refine zA ?_
|refine zI ?_
|refine zb ?_
|apply aw_1
 conv => whnf
 refine ⟨?_,trivial⟩
|apply s_1
 conv => whnf; arg 1; arg 4; arg 3; whnf
 refine ⟨?_,?_⟩
|refine zG ?_
|refine zB rfl ?_
|refine zH ?_
|refine ⟨_,by conv => lhs; whnf; arg 2; whnf,?_⟩; conv => rhs; whnf
|exact trivial)
 all_goals first
  | exact absurd ‹(true == true) = false› (by decide)
  | rfl
  | exact zo (by decide)
  | exact ⟨rfl,trivial⟩
  | exact congrArg (fun b => V.c (.bool b)) (by decide +kernel)
  | (constructor <;> decide)
theorem hasD_z : AC EN5 Tryz.prog 129 [.sl 129 [],.c (.func (.func 130) #[] #[])] (.c (.bool false)):=by
 have h:=idxD_z
 refine zX 9 Tryz.func129 rfl rfl rfl rfl ?_
 intro s w he
 repeat' (first
|refine zA ?_
|refine zI ?_
|refine zb ?_
|apply aw_1
 conv => whnf
 refine ⟨?_,trivial⟩
|apply s_1
 conv => whnf; arg 1; arg 4; arg 3; whnf
 refine ⟨?_,?_⟩
|apply zd rfl
 . conv => lhs; whnf
 . conv => lhs; whnf
 . first | exact h
|refine zH ?_
|refine ⟨_,by conv => lhs; whnf; arg 2; whnf,?_⟩; conv => rhs; whnf
|exact trivial)
 all_goals first
  | exact absurd ‹(true == true) = false› (by decide)
  | rfl
  | exact zo (by decide)
  | exact ⟨rfl,trivial⟩
  | exact congrArg (fun b => V.c (.bool b)) (by decide +kernel)
  | (constructor <;> decide)
theorem dirs_z : AC EN5 Tryz.prog 91 [.sl 129 []] (.c (.bool true)):=by
 have h:=hasD_z
 refine zX 11 Tryz.func91 rfl rfl rfl rfl ?_
 intro s w he
 repeat' (first
|refine zA ?_
|refine zI ?_
|refine zb ?_
|apply aw_1
 conv => whnf
 refine ⟨?_,trivial⟩
|apply zg rfl rfl
 . conv => lhs; whnf
 . conv => lhs; whnf
 . first | decide +kernel
|apply s_1
 conv => whnf; arg 1; arg 4; arg 3; whnf
 refine ⟨?_,?_⟩
|apply zR rfl
 . conv => lhs; whnf
 . conv => lhs; whnf
 . first | rfl | assumption | decide +kernel
 . conv => lhs; whnf
 . first | exact h
|refine zH ?_
|refine ⟨_,by conv => lhs; whnf; arg 2; whnf,?_⟩; conv => rhs; whnf
|exact trivial)
 all_goals first
  | exact absurd ‹(true == true) = false› (by decide)
  | rfl
  | exact zo (by decide)
  | exact ⟨rfl,trivial⟩
  | exact congrArg (fun b => V.c (.bool b)) (by decide +kernel)
  | (constructor <;> decide)
theorem zGq : AC EN5 Tryz.prog 25 [.c (.string ⟨#[102]⟩)] (.c (.bool true)):=by
 refine zX 9 Tryz.func25 rfl rfl rfl rfl ?_
 intro s w he
 repeat' (first
|refine zA ?_
|refine zI ?_
|refine zb ?_
|apply aw_1
 conv => whnf
 refine ⟨?_,trivial⟩
|apply zg rfl rfl
 . conv => lhs; whnf
 . conv => lhs; whnf
 . first | decide +kernel
|apply s_1
 conv => whnf; arg 1; arg 4; arg 3; whnf
 refine ⟨?_,?_⟩
|apply zd rfl
 . conv => lhs; whnf
 . conv => lhs; whnf
 . first | exact zAi _ (by decide) (by kernel_rfl)
|refine zH ?_
|refine ⟨_,by conv => lhs; whnf; arg 2; whnf,?_⟩; conv => rhs; whnf
|exact trivial)
 all_goals first
  | exact absurd ‹(true == true) = false› (by decide)
  | rfl
  | exact zo (by decide)
  | exact ⟨rfl,trivial⟩
  | exact congrArg (fun b => V.c (.bool b)) (by decide +kernel)
  | (constructor <;> decide)
theorem idxS0_z : ACB EN5 Tryz.prog 89 [.sl 57 [],.clo 50 [.bx (pn 0) 0]] [.box 3 [.c (.int .i64 2)]] (.c (.int .i64 (-1))) [.box 3 [.c (.int .i64 2)]] /\ ACB EN5 Tryz.prog 89 [.sl 57 [],.clo 50 [.bx (pn 0) 0]] [.box 3 [.c (.int .i64 3)]] (.c (.int .i64 (-1))) [.box 3 [.c (.int .i64 3)]]:=by
 refine ⟨?_,?_⟩
 all_goals
  refine zAM (fn:=Tryz.f89) 19 Tryz.func89 rfl rfl ?_
  intro pas w0 w he hpp
  repeat' (first
|apply zAe 7
|refine zAb ?_
|apply zS
 . conv => lhs; whnf
 . decide +kernel
|refine zA ?_
|refine zI ?_
|refine zb ?_
|apply aw_1
 conv => whnf
 refine ⟨?_,trivial⟩
|apply s_1
 conv => whnf; arg 1; arg 4; arg 3; whnf
 refine ⟨?_,?_⟩
|refine zG ?_
|refine zB rfl ?_
|refine zAh ⟨?_,?_⟩
|refine ⟨_,by conv => lhs; whnf; arg 2; whnf,?_⟩; conv => rhs; whnf
|exact trivial)
 all_goals first
  | exact absurd ‹(true == true) = false› (by decide)
  | rfl
  | exact zo (by decide)
  | exact ⟨rfl,trivial⟩
  | exact congrArg (fun b => V.c (.bool b)) (by decide +kernel)
  | (constructor <;> decide)
theorem hasS0_z : ACB EN5 Tryz.prog 49 [.sl 57 [],.clo 50 [.bx (pn 0) 0]] [.box 3 [.c (.int .i64 2)]] (.c (.bool false)) [.box 3 [.c (.int .i64 2)]] /\ ACB EN5 Tryz.prog 49 [.sl 57 [],.clo 50 [.bx (pn 0) 0]] [.box 3 [.c (.int .i64 3)]] (.c (.bool false)) [.box 3 [.c (.int .i64 3)]]:=by
 have h:=idxS0_z
 refine ⟨?_,?_⟩
 all_goals
  refine zAM (fn:=Tryz.f49) 9 Tryz.func49 rfl rfl ?_
  intro pas w0 w he hpp
  repeat' (first
|apply zAt (m:=pn 0) rfl
 . conv => lhs; whnf
 . conv => lhs; whnf
 . rfl
 . conv => lhs; whnf; arg 1; whnf
 . exact fun _ => rfl
 . first | exact h.1
 . exact fun _ => rfl
 . exact fun _ => rfl
 . exact fun _ => rfl
|apply zAt (m:=pn 0) rfl
 . conv => lhs; whnf
 . conv => lhs; whnf
 . rfl
 . conv => lhs; whnf; arg 1; whnf
 . exact fun _ => rfl
 . first | exact h.2
 . exact fun _ => rfl
 . exact fun _ => rfl
 . exact fun _ => rfl
|refine zA ?_
|refine zI ?_
|refine zb ?_
|apply aw_1
 conv => whnf
 refine ⟨?_,trivial⟩
|apply s_1
 conv => whnf; arg 1; arg 4; arg 3; whnf
 refine ⟨?_,?_⟩
|refine zAh ⟨?_,?_⟩
|refine ⟨_,by conv => lhs; whnf; arg 2; whnf,?_⟩; conv => rhs; whnf
|exact trivial)
 all_goals first
  | exact absurd ‹(true == true) = false› (by decide)
  | rfl
  | exact zo (by decide)
  | exact ⟨rfl,trivial⟩
  | exact congrArg (fun b => V.c (.bool b)) (by decide +kernel)
  | (constructor <;> decide)
theorem sels0_z : AC EN5 Tryz.prog 22 [.sl 57 [],.c (.int .i64 0),.c (.int .i64 2)] (.c (.bool true)) /\ AC EN5 Tryz.prog 22 [.sl 57 [],.c (.int .i64 0),.c (.int .i64 3)] (.c (.bool true)):=by
 have h:=hasS0_z
 refine ⟨?_,?_⟩
 all_goals
  refine zX 29 Tryz.func22 rfl rfl rfl rfl ?_
  intro s w he
  repeat' (first
|apply zu rfl rfl rfl
 . conv => lhs; whnf
 . first | rfl | assumption | decide +kernel
 . conv => lhs; whnf
 . first | decide +kernel | rfl
|apply zAt (m:=5) rfl
 . conv => lhs; whnf
 . conv => lhs; whnf
 . rfl
 . conv => lhs; whnf; arg 1; whnf
 . exact fun _ => rfl
 . first | exact h.1
 . exact fun _ => rfl
 . exact fun _ => rfl
 . exact fun _ => rfl
|apply zAt (m:=5) rfl
 . conv => lhs; whnf
 . conv => lhs; whnf
 . rfl
 . conv => lhs; whnf; arg 1; whnf
 . exact fun _ => rfl
 . first | exact h.2
 . exact fun _ => rfl
 . exact fun _ => rfl
 . exact fun _ => rfl
|apply zS
 . conv => lhs; whnf
 . decide +kernel
|refine zA ?_
|refine zI ?_
|refine zb ?_
|apply aw_1
 conv => whnf
 refine ⟨?_,trivial⟩
|apply ze rfl rfl
 . conv => lhs; whnf
 . conv => lhs; whnf
 . first | decide +kernel
|apply s_1
 conv => whnf; arg 1; arg 4; arg 3; whnf
 refine ⟨?_,?_⟩
|apply zAC rfl rfl rfl rfl
 . conv => lhs; whnf; arg 1; whnf
 . rfl
|refine zH ?_
|refine ⟨_,by conv => lhs; whnf; arg 2; whnf,?_⟩; conv => rhs; whnf
|exact trivial)
 all_goals first
  | exact absurd ‹(true == true) = false› (by decide)
  | rfl
  | exact zo (by decide)
  | exact ⟨rfl,trivial⟩
  | exact congrArg (fun b => V.c (.bool b)) (by decide +kernel)
  | (constructor <;> decide)
theorem sel1c_z : AC EN5 Tryz.prog 51 [.agg (cellsV Tryz.prog 12 57 e1),.c (.int .i64 1)] (.c (.bool true)) /\ AC EN5 Tryz.prog 51 [.agg (cellsV Tryz.prog 12 57 e2),.c (.int .i64 2)] (.c (.bool true)) /\ AC EN5 Tryz.prog 51 [.agg (cellsV Tryz.prog 12 57 e3),.c (.int .i64 2)] (.c (.bool true)):=by
 have ha:=args_z
 have hd:=dirs_z
 have ht:=zGq
 have hs:=sels0_z
 refine ⟨?_,?_,?_⟩
 all_goals
  refine zX 104 Tryz.func51 rfl rfl rfl rfl ?_
  intro s w he
  repeat' (first
|apply zq rfl rfl rfl
 . conv => lhs; whnf
 . first | rfl | assumption | decide +kernel
 . conv => lhs; whnf
 . first | decide +kernel | rfl
|apply zW
 . conv => lhs; whnf
 . decide +kernel
|apply zS
 . conv => lhs; whnf
 . decide +kernel
|refine zA ?_
|refine zI ?_
|refine zb ?_
|apply aw_1
 conv => whnf
 refine ⟨?_,trivial⟩
|apply zg rfl rfl
 . conv => lhs; whnf
 . conv => lhs; whnf
 . first | decide +kernel
|apply ze rfl rfl
 . conv => lhs; whnf
 . conv => lhs; whnf
 . first | decide +kernel
|apply s_1
 conv => whnf; arg 1; arg 4; arg 3; whnf
 refine ⟨?_,?_⟩
|apply zd rfl
 . conv => lhs; whnf
 . conv => lhs; whnf
 . first | exact zAi _ (by decide) (by kernel_rfl) | exact ha.1 | exact ha.2 | exact hd | exact ht | exact hs.1 | exact hs.2
|apply zAC rfl rfl rfl rfl
 . conv => lhs; whnf; arg 1; whnf
 . rfl
|apply zM rfl
 . conv => lhs; whnf
 . conv => lhs; whnf
 . first | rfl | assumption | decide +kernel
 . conv => lhs; whnf; arg 2; whnf
|apply zR rfl
 . conv => lhs; whnf
 . conv => lhs; whnf
 . first | rfl | assumption | decide +kernel
 . conv => lhs; whnf
 . first | exact zAi _ (by decide) (by kernel_rfl) | exact ha.1 | exact ha.2 | exact hd | exact ht | exact hs.1 | exact hs.2
|apply zl rfl
 . conv => lhs; whnf
 . conv => lhs; whnf
 . first | rfl | assumption | decide +kernel
|refine zK ?_
|refine zC ?_
|refine zH ?_
|refine ⟨_,by conv => lhs; whnf; arg 2; whnf,?_⟩; conv => rhs; whnf
|exact trivial)
 all_goals first
  | exact absurd ‹(true == true) = false› (by decide)
  | rfl
  | exact zo (by decide)
  | exact ⟨rfl,trivial⟩
  | exact congrArg (fun b => V.c (.bool b)) (by decide +kernel)
  | (constructor <;> decide)
theorem sel1_z : ACB EN5 Tryz.prog 50 [.agg (cellsV Tryz.prog 12 57 e1),.bx (pn 0) 0] [.box 3 [.c (.int .i64 1)]] (.c (.bool false)) [.box 3 [.c (.int .i64 1)]] /\ ACB EN5 Tryz.prog 50 [.agg (cellsV Tryz.prog 12 57 e2),.bx (pn 0) 0] [.box 3 [.c (.int .i64 2)]] (.c (.bool false)) [.box 3 [.c (.int .i64 2)]] /\ ACB EN5 Tryz.prog 50 [.agg (cellsV Tryz.prog 12 57 e3),.bx (pn 0) 0] [.box 3 [.c (.int .i64 2)]] (.c (.bool false)) [.box 3 [.c (.int .i64 2)]]:=by
 have h:=sel1c_z
 refine ⟨?_,?_,?_⟩
 all_goals
  refine zAM (fn:=Tryz.f50) 8 Tryz.func50 rfl rfl ?_
  intro pas w0 w he hpp
  repeat' (first
|refine zA ?_
|refine zI ?_
|refine zb ?_
|apply aw_1
 conv => whnf
 refine ⟨?_,trivial⟩
|apply s_1
 conv => whnf; arg 1; arg 4; arg 3; whnf
 refine ⟨?_,?_⟩
|apply zd rfl
 . conv => lhs; whnf
 . conv => lhs; whnf
 . first | exact h.1 | exact h.2.1 | exact h.2.2
|apply zAC rfl rfl rfl rfl
 . conv => lhs; whnf; arg 1; whnf
 . rfl
|refine zAh ⟨?_,?_⟩
|refine ⟨_,by conv => lhs; whnf; arg 2; whnf,?_⟩; conv => rhs; whnf
|exact trivial)
 all_goals first
  | exact absurd ‹(true == true) = false› (by decide)
  | rfl
  | exact zo (by decide)
  | exact ⟨rfl,trivial⟩
  | exact congrArg (fun b => V.c (.bool b)) (by decide +kernel)
  | (constructor <;> decide)
theorem idxS1_z : ACB EN5 Tryz.prog 89 [.sl 57 [e1],.clo 50 [.bx (pn 0) 0]] [.box 3 [.c (.int .i64 1)]] (.c (.int .i64 (-1))) [.box 3 [.c (.int .i64 1)]] /\ ACB EN5 Tryz.prog 89 [.sl 57 [e2,e3],.clo 50 [.bx (pn 0) 0]] [.box 3 [.c (.int .i64 2)]] (.c (.int .i64 (-1))) [.box 3 [.c (.int .i64 2)]]:=by
 refine ⟨?_,?_⟩
 all_goals
  refine zAM (fn:=Tryz.f89) 19 Tryz.func89 rfl rfl ?_
  intro pas w0 w he hpp
  repeat' (first
|apply zAt (m:=pn 0) rfl
 . conv => lhs; whnf
 . conv => lhs; whnf
 . rfl
 . conv => lhs; whnf; arg 1; whnf
 . exact fun _ => rfl
 . first | exact sel1_z.2.1
 . exact fun _ => rfl
 . exact fun _ => rfl
 . exact fun _ => rfl
|apply zAt (m:=pn 0) rfl
 . conv => lhs; whnf
 . conv => lhs; whnf
 . rfl
 . conv => lhs; whnf; arg 1; whnf
 . exact fun _ => rfl
 . first | exact sel1_z.2.2
 . exact fun _ => rfl
 . exact fun _ => rfl
 . exact fun _ => rfl
|apply zAt (m:=pn 0) rfl
 . conv => lhs; whnf
 . conv => lhs; whnf
 . rfl
 . conv => lhs; whnf; arg 1; whnf
 . exact fun _ => rfl
 . first | exact sel1_z.1
 . exact fun _ => rfl
 . exact fun _ => rfl
 . exact fun _ => rfl
|apply zAe 7
|refine k_rnd ?_
|refine zAb ?_
|apply zW
 . conv => lhs; whnf
 . decide +kernel
|apply zS
 . conv => lhs; whnf
 . decide +kernel
|refine zA ?_
|refine zI ?_
|refine zb ?_
|refine zU ?_
|apply aw_1
 conv => whnf
 refine ⟨?_,trivial⟩
|apply s_1
 conv => whnf; arg 1; arg 4; arg 3; whnf
 refine ⟨?_,?_⟩
|refine zG ?_
|refine zB rfl ?_
|refine zAh ⟨?_,?_⟩
|refine ⟨_,by conv => lhs; whnf; arg 2; whnf,?_⟩; conv => rhs; whnf
|exact trivial)
 all_goals first
  | exact absurd ‹(true == true) = false› (by decide)
  | rfl
  | exact zo (by decide)
  | exact ⟨rfl,trivial⟩
  | exact congrArg (fun b => V.c (.bool b)) (by decide +kernel)
  | (constructor <;> decide)
theorem hasS1_z : ACB EN5 Tryz.prog 49 [.sl 57 [e1],.clo 50 [.bx (pn 0) 0]] [.box 3 [.c (.int .i64 1)]] (.c (.bool false)) [.box 3 [.c (.int .i64 1)]] /\ ACB EN5 Tryz.prog 49 [.sl 57 [e2,e3],.clo 50 [.bx (pn 0) 0]] [.box 3 [.c (.int .i64 2)]] (.c (.bool false)) [.box 3 [.c (.int .i64 2)]]:=by
 have h:=idxS1_z
 refine ⟨?_,?_⟩
 all_goals
  refine zAM (fn:=Tryz.f49) 9 Tryz.func49 rfl rfl ?_
  intro pas w0 w he hpp
  repeat' (first
|apply zAt (m:=pn 0) rfl
 . conv => lhs; whnf
 . conv => lhs; whnf
 . rfl
 . conv => lhs; whnf; arg 1; whnf
 . exact fun _ => rfl
 . first | exact h.1
 . exact fun _ => rfl
 . exact fun _ => rfl
 . exact fun _ => rfl
|apply zAt (m:=pn 0) rfl
 . conv => lhs; whnf
 . conv => lhs; whnf
 . rfl
 . conv => lhs; whnf; arg 1; whnf
 . exact fun _ => rfl
 . first | exact h.2
 . exact fun _ => rfl
 . exact fun _ => rfl
 . exact fun _ => rfl
|refine zA ?_
|refine zI ?_
|refine zb ?_
|apply aw_1
 conv => whnf
 refine ⟨?_,trivial⟩
|apply s_1
 conv => whnf; arg 1; arg 4; arg 3; whnf
 refine ⟨?_,?_⟩
|refine zAh ⟨?_,?_⟩
|refine ⟨_,by conv => lhs; whnf; arg 2; whnf,?_⟩; conv => rhs; whnf
|exact trivial)
 all_goals first
  | exact absurd ‹(true == true) = false› (by decide)
  | rfl
  | exact zo (by decide)
  | exact ⟨rfl,trivial⟩
  | exact congrArg (fun b => V.c (.bool b)) (by decide +kernel)
  | (constructor <;> decide)
theorem sels1_z : AC EN5 Tryz.prog 22 [.sl 57 [e1],.c (.int .i64 1),.c (.int .i64 1)] (.c (.bool true)) /\ AC EN5 Tryz.prog 22 [.sl 57 [e2,e3],.c (.int .i64 0),.c (.int .i64 2)] (.c (.bool true)):=by
 have h:=hasS1_z
 refine ⟨?_,?_⟩
 all_goals
  refine zX 29 Tryz.func22 rfl rfl rfl rfl ?_
  intro s w he
  repeat' (first
|apply zq rfl rfl rfl
 . conv => lhs; whnf
 . first | rfl | assumption | decide +kernel
 . conv => lhs; whnf
 . first | decide +kernel | rfl
|apply zAt (m:=5) rfl
 . conv => lhs; whnf
 . conv => lhs; whnf
 . rfl
 . conv => lhs; whnf; arg 1; whnf
 . exact fun _ => rfl
 . first | exact h.1
 . exact fun _ => rfl
 . exact fun _ => rfl
 . exact fun _ => rfl
|apply zAt (m:=5) rfl
 . conv => lhs; whnf
 . conv => lhs; whnf
 . rfl
 . conv => lhs; whnf; arg 1; whnf
 . exact fun _ => rfl
 . first | exact h.2
 . exact fun _ => rfl
 . exact fun _ => rfl
 . exact fun _ => rfl
|apply zS
 . conv => lhs; whnf
 . decide +kernel
|refine zA ?_
|refine zI ?_
|refine zb ?_
|apply aw_1
 conv => whnf
 refine ⟨?_,trivial⟩
|apply ze rfl rfl
 . conv => lhs; whnf
 . conv => lhs; whnf
 . first | decide +kernel
|apply s_1
 conv => whnf; arg 1; arg 4; arg 3; whnf
 refine ⟨?_,?_⟩
|apply zAC rfl rfl rfl rfl
 . conv => lhs; whnf; arg 1; whnf
 . rfl
|refine zH ?_
|refine ⟨_,by conv => lhs; whnf; arg 2; whnf,?_⟩; conv => rhs; whnf
|exact trivial)
 all_goals first
  | exact absurd ‹(true == true) = false› (by decide)
  | rfl
  | exact zo (by decide)
  | exact ⟨rfl,trivial⟩
  | exact congrArg (fun b => V.c (.bool b)) (by decide +kernel)
  | (constructor <;> decide)
theorem sel2c_z : AC EN5 Tryz.prog 51 [.agg (cellsV Tryz.prog 12 57 e4),.c (.int .i64 1)] (.c (.bool true)):=by
 have ha:=args_z
 have hd:=dirs_z
 have ht:=zGq
 have hs:=sels1_z.2
 refine zX 104 Tryz.func51 rfl rfl rfl rfl ?_
 intro s w he
 repeat' (first
|apply zu rfl rfl rfl
 . conv => lhs; whnf
 . first | rfl | assumption | decide +kernel
 . conv => lhs; whnf
 . first | decide +kernel | rfl
|apply zW
 . conv => lhs; whnf
 . decide +kernel
|apply zS
 . conv => lhs; whnf
 . decide +kernel
|refine zA ?_
|refine zI ?_
|refine zb ?_
|apply aw_1
 conv => whnf
 refine ⟨?_,trivial⟩
|apply zg rfl rfl
 . conv => lhs; whnf
 . conv => lhs; whnf
 . first | decide +kernel
|apply ze rfl rfl
 . conv => lhs; whnf
 . conv => lhs; whnf
 . first | decide +kernel
|apply s_1
 conv => whnf; arg 1; arg 4; arg 3; whnf
 refine ⟨?_,?_⟩
|apply zd rfl
 . conv => lhs; whnf
 . conv => lhs; whnf
 . first | exact zAi _ (by decide) (by kernel_rfl) | exact ha.1 | exact ha.2 | exact hd | exact ht | exact hs
|apply zAC rfl rfl rfl rfl
 . conv => lhs; whnf; arg 1; whnf
 . rfl
|apply zM rfl
 . conv => lhs; whnf
 . conv => lhs; whnf
 . first | rfl | assumption | decide +kernel
 . conv => lhs; whnf; arg 2; whnf
|apply zR rfl
 . conv => lhs; whnf
 . conv => lhs; whnf
 . first | rfl | assumption | decide +kernel
 . conv => lhs; whnf
 . first | exact zAi _ (by decide) (by kernel_rfl) | exact ha.1 | exact ha.2 | exact hd | exact ht | exact hs
|refine zK ?_
|refine zC ?_
|refine zH ?_
|refine ⟨_,by conv => lhs; whnf; arg 2; whnf,?_⟩; conv => rhs; whnf
|exact trivial)
 all_goals first
  | exact absurd ‹(true == true) = false› (by decide)
  | rfl
  | exact zo (by decide)
  | exact ⟨rfl,trivial⟩
  | exact congrArg (fun b => V.c (.bool b)) (by decide +kernel)
  | (constructor <;> decide)
theorem sel2_z : ACB EN5 Tryz.prog 50 [.agg (cellsV Tryz.prog 12 57 e4),.bx (pn 0) 0] [.box 3 [.c (.int .i64 1)]] (.c (.bool false)) [.box 3 [.c (.int .i64 1)]]:=by
 have h:=sel2c_z
 refine zAM (fn:=Tryz.f50) 8 Tryz.func50 rfl rfl ?_
 intro pas w0 w he hpp
 repeat' (first
|refine zA ?_
|refine zI ?_
|refine zb ?_
|apply aw_1
 conv => whnf
 refine ⟨?_,trivial⟩
|apply s_1
 conv => whnf; arg 1; arg 4; arg 3; whnf
 refine ⟨?_,?_⟩
|apply zd rfl
 . conv => lhs; whnf
 . conv => lhs; whnf
 . first | exact h
|apply zAC rfl rfl rfl rfl
 . conv => lhs; whnf; arg 1; whnf
 . rfl
|refine zAh ⟨?_,?_⟩
|refine ⟨_,by conv => lhs; whnf; arg 2; whnf,?_⟩; conv => rhs; whnf
|exact trivial)
 all_goals first
  | exact absurd ‹(true == true) = false› (by decide)
  | rfl
  | exact zo (by decide)
  | exact ⟨rfl,trivial⟩
  | exact congrArg (fun b => V.c (.bool b)) (by decide +kernel)
  | (constructor <;> decide)
theorem idxS2_z : ACB EN5 Tryz.prog 89 [.sl 57 [e4],.clo 50 [.bx (pn 0) 0]] [.box 3 [.c (.int .i64 1)]] (.c (.int .i64 (-1))) [.box 3 [.c (.int .i64 1)]]:=by
 refine zAM (fn:=Tryz.f89) 19 Tryz.func89 rfl rfl ?_
 intro pas w0 w he hpp
 repeat' (first
|apply zAt (m:=pn 0) rfl
 . conv => lhs; whnf
 . conv => lhs; whnf
 . rfl
 . conv => lhs; whnf; arg 1; whnf
 . exact fun _ => rfl
 . first | exact sel2_z
 . exact fun _ => rfl
 . exact fun _ => rfl
 . exact fun _ => rfl
|apply zAe 7
|refine k_rnd ?_
|refine zAb ?_
|apply zW
 . conv => lhs; whnf
 . decide +kernel
|apply zS
 . conv => lhs; whnf
 . decide +kernel
|refine zA ?_
|refine zI ?_
|refine zb ?_
|refine zU ?_
|apply aw_1
 conv => whnf
 refine ⟨?_,trivial⟩
|apply s_1
 conv => whnf; arg 1; arg 4; arg 3; whnf
 refine ⟨?_,?_⟩
|refine zG ?_
|refine zB rfl ?_
|refine zAh ⟨?_,?_⟩
|refine ⟨_,by conv => lhs; whnf; arg 2; whnf,?_⟩; conv => rhs; whnf
|exact trivial)
 all_goals first
  | exact absurd ‹(true == true) = false› (by decide)
  | rfl
  | exact zo (by decide)
  | exact ⟨rfl,trivial⟩
  | exact congrArg (fun b => V.c (.bool b)) (by decide +kernel)
  | (constructor <;> decide)
theorem hasS2_z : ACB EN5 Tryz.prog 49 [.sl 57 [e4],.clo 50 [.bx (pn 0) 0]] [.box 3 [.c (.int .i64 1)]] (.c (.bool false)) [.box 3 [.c (.int .i64 1)]]:=by
 have h:=idxS2_z
 refine zAM (fn:=Tryz.f49) 9 Tryz.func49 rfl rfl ?_
 intro pas w0 w he hpp
 repeat' (first
|apply zAt (m:=pn 0) rfl
 . conv => lhs; whnf
 . conv => lhs; whnf
 . rfl
 . conv => lhs; whnf; arg 1; whnf
 . exact fun _ => rfl
 . first | exact h
 . exact fun _ => rfl
 . exact fun _ => rfl
 . exact fun _ => rfl
|refine zA ?_
|refine zI ?_
|refine zb ?_
|apply aw_1
 conv => whnf
 refine ⟨?_,trivial⟩
|apply s_1
 conv => whnf; arg 1; arg 4; arg 3; whnf
 refine ⟨?_,?_⟩
|refine zAh ⟨?_,?_⟩
|refine ⟨_,by conv => lhs; whnf; arg 2; whnf,?_⟩; conv => rhs; whnf
|exact trivial)
 all_goals first
  | exact absurd ‹(true == true) = false› (by decide)
  | rfl
  | exact zo (by decide)
  | exact ⟨rfl,trivial⟩
  | exact congrArg (fun b => V.c (.bool b)) (by decide +kernel)
  | (constructor <;> decide)
theorem sels2_z : AC EN5 Tryz.prog 22 [.sl 57 [e4],.c (.int .i64 1),.c (.int .i64 1)] (.c (.bool true)):=by
 have h:=hasS2_z
 refine zX 29 Tryz.func22 rfl rfl rfl rfl ?_
 intro s w he
 repeat' (first
|apply zq rfl rfl rfl
 . conv => lhs; whnf
 . first | rfl | assumption | decide +kernel
 . conv => lhs; whnf
 . first | decide +kernel | rfl
|apply zAt (m:=5) rfl
 . conv => lhs; whnf
 . conv => lhs; whnf
 . rfl
 . conv => lhs; whnf; arg 1; whnf
 . exact fun _ => rfl
 . first | exact h
 . exact fun _ => rfl
 . exact fun _ => rfl
 . exact fun _ => rfl
|apply zS
 . conv => lhs; whnf
 . decide +kernel
|refine zA ?_
|refine zI ?_
|refine zb ?_
|apply aw_1
 conv => whnf
 refine ⟨?_,trivial⟩
|apply ze rfl rfl
 . conv => lhs; whnf
 . conv => lhs; whnf
 . first | decide +kernel
|apply s_1
 conv => whnf; arg 1; arg 4; arg 3; whnf
 refine ⟨?_,?_⟩
|apply zAC rfl rfl rfl rfl
 . conv => lhs; whnf; arg 1; whnf
 . rfl
|refine zH ?_
|refine ⟨_,by conv => lhs; whnf; arg 2; whnf,?_⟩; conv => rhs; whnf
|exact trivial)
 all_goals first
  | exact absurd ‹(true == true) = false› (by decide)
  | rfl
  | exact zo (by decide)
  | exact ⟨rfl,trivial⟩
  | exact congrArg (fun b => V.c (.bool b)) (by decide +kernel)
  | (constructor <;> decide)
theorem ref_z : AC EN5 Tryz.prog 45 [.agg (cellsV Tryz.prog 12 59 eT)] (.c (.bool true)):=by
 refine zX 48 Tryz.func45 rfl rfl rfl rfl ?_
 intro s w he
 repeat' (first
|apply zAe 7
|refine zAb ?_
|apply zS
 . conv => lhs; whnf
 . decide +kernel
|refine zA ?_
|refine zI ?_
|refine zb ?_
|apply aw_1
 conv => whnf
 refine ⟨?_,trivial⟩
|apply ze rfl rfl
 . conv => lhs; whnf
 . conv => lhs; whnf
 . first | decide +kernel
|apply s_1
 conv => whnf; arg 1; arg 4; arg 3; whnf
 refine ⟨?_,?_⟩
|apply zd rfl
 . conv => lhs; whnf
 . conv => lhs; whnf
 . first | exact zAi _ (by decide) (by kernel_rfl)
|apply zAC rfl rfl rfl rfl
 . conv => lhs; whnf; arg 1; whnf
 . rfl
|refine zG ?_
|refine zB rfl ?_
|refine zH ?_
|refine ⟨_,by conv => lhs; whnf; arg 2; whnf,?_⟩; conv => rhs; whnf
|exact trivial)
 all_goals first
  | exact absurd ‹(true == true) = false› (by decide)
  | rfl
  | exact zo (by decide)
  | exact ⟨rfl,trivial⟩
  | exact congrArg (fun b => V.c (.bool b)) (by decide +kernel)
  | (constructor <;> decide)
theorem var_z : AC EN5 Tryz.prog 21 [.agg (cellsV Tryz.prog 12 64 eW)] (.c (.bool true)):=by
 have h1:=ref_z
 have h2:=lit_z.2
 have h3:=bare_z
 refine zX 35 Tryz.func21 rfl rfl rfl rfl ?_
 intro s w he
 repeat' (first
|apply zS
 . conv => lhs; whnf
 . decide +kernel
|refine zA ?_
|refine zI ?_
|refine zb ?_
|apply aw_1
 conv => whnf
 refine ⟨?_,trivial⟩
|apply zg rfl rfl
 . conv => lhs; whnf
 . conv => lhs; whnf
 . first | decide +kernel
|apply ze rfl rfl
 . conv => lhs; whnf
 . conv => lhs; whnf
 . first | decide +kernel
|apply s_1
 conv => whnf; arg 1; arg 4; arg 3; whnf
 refine ⟨?_,?_⟩
|apply zd rfl
 . conv => lhs; whnf
 . conv => lhs; whnf
 . first | exact zAi _ (by decide) (by kernel_rfl) | exact h1 | exact h2 | exact h3
|apply zAC rfl rfl rfl rfl
 . conv => lhs; whnf; arg 1; whnf
 . rfl
|apply zR rfl
 . conv => lhs; whnf
 . conv => lhs; whnf
 . first | rfl | assumption | decide +kernel
 . conv => lhs; whnf
 . first | exact zAi _ (by decide) (by kernel_rfl) | exact h1 | exact h2 | exact h3
|refine zH ?_
|refine ⟨_,by conv => lhs; whnf; arg 2; whnf,?_⟩; conv => rhs; whnf
|exact trivial)
 all_goals first
  | exact absurd ‹(true == true) = false› (by decide)
  | rfl
  | exact zo (by decide)
  | exact ⟨rfl,trivial⟩
  | exact congrArg (fun b => V.c (.bool b)) (by decide +kernel)
  | (constructor <;> decide)
theorem right1_z : AC EN5 Tryz.prog 20 [.agg (cellsV Tryz.prog 12 64 eW)] (.c (.bool false)):=by
 have h:=var_z
 refine zX 6 Tryz.func20 rfl rfl rfl rfl ?_
 intro s w he
 repeat' (first
|refine zA ?_
|refine zI ?_
|refine zb ?_
|apply aw_1
 conv => whnf
 refine ⟨?_,trivial⟩
|apply s_1
 conv => whnf; arg 1; arg 4; arg 3; whnf
 refine ⟨?_,?_⟩
|apply zd rfl
 . conv => lhs; whnf
 . conv => lhs; whnf
 . first | exact h
|apply zAC rfl rfl rfl rfl
 . conv => lhs; whnf; arg 1; whnf
 . rfl
|refine zH ?_
|refine ⟨_,by conv => lhs; whnf; arg 2; whnf,?_⟩; conv => rhs; whnf
|exact trivial)
 all_goals first
  | exact absurd ‹(true == true) = false› (by decide)
  | rfl
  | exact zo (by decide)
  | exact ⟨rfl,trivial⟩
  | exact congrArg (fun b => V.c (.bool b)) (by decide +kernel)
  | (constructor <;> decide)
theorem right2_z : AC EN5 Tryz.prog 24 [.agg (cellsV Tryz.prog 12 50 eF)] (.c (.bool false)):=by
 have h1:=zGq
 have h2:=sels1_z.1
 refine zX 19 Tryz.func24 rfl rfl rfl rfl ?_
 intro s w he
 repeat' (first
|refine zA ?_
|refine zI ?_
|refine zb ?_
|apply aw_1
 conv => whnf
 refine ⟨?_,trivial⟩
|apply ze rfl rfl
 . conv => lhs; whnf
 . conv => lhs; whnf
 . first | decide +kernel
|apply s_1
 conv => whnf; arg 1; arg 4; arg 3; whnf
 refine ⟨?_,?_⟩
|apply zd rfl
 . conv => lhs; whnf
 . conv => lhs; whnf
 . first | exact zAi _ (by decide) (by kernel_rfl) | exact h1 | exact h2
|apply zAC rfl rfl rfl rfl
 . conv => lhs; whnf; arg 1; whnf
 . rfl
|apply zR rfl
 . conv => lhs; whnf
 . conv => lhs; whnf
 . first | rfl | assumption | decide +kernel
 . conv => lhs; whnf
 . first | exact zAi _ (by decide) (by kernel_rfl) | exact h1 | exact h2
|refine zH ?_
|refine ⟨_,by conv => lhs; whnf; arg 2; whnf,?_⟩; conv => rhs; whnf
|exact trivial)
 all_goals first
  | exact absurd ‹(true == true) = false› (by decide)
  | rfl
  | exact zo (by decide)
  | exact ⟨rfl,trivial⟩
  | exact congrArg (fun b => V.c (.bool b)) (by decide +kernel)
  | (constructor <;> decide)
theorem idxV_z : AC EN5 Tryz.prog 44 [.sl 64 [eW],.c (.func (.func 20) #[] #[])] (.c (.int .i64 (-1))):=by
 refine zX 19 Tryz.func44 rfl rfl rfl rfl ?_
 intro s w he
 repeat' (first
|apply zAe 7
|refine k_rnd ?_
|refine zAb ?_
|apply zW
 . conv => lhs; whnf
 . decide +kernel
|apply zS
 . conv => lhs; whnf
 . decide +kernel
|refine zA ?_
|refine zI ?_
|refine zb ?_
|refine zU ?_
|apply aw_1
 conv => whnf
 refine ⟨?_,trivial⟩
|apply s_1
 conv => whnf; arg 1; arg 4; arg 3; whnf
 refine ⟨?_,?_⟩
|apply zd rfl
 . conv => lhs; whnf
 . conv => lhs; whnf
 . first | exact right1_z
|refine zG ?_
|refine zB rfl ?_
|refine zH ?_
|refine ⟨_,by conv => lhs; whnf; arg 2; whnf,?_⟩; conv => rhs; whnf
|exact trivial)
 all_goals first
  | exact absurd ‹(true == true) = false› (by decide)
  | rfl
  | exact zo (by decide)
  | exact ⟨rfl,trivial⟩
  | exact congrArg (fun b => V.c (.bool b)) (by decide +kernel)
  | (constructor <;> decide)
theorem hasV_z : AC EN5 Tryz.prog 19 [.sl 64 [eW],.c (.func (.func 20) #[] #[])] (.c (.bool false)):=by
 have h:=idxV_z
 refine zX 9 Tryz.func19 rfl rfl rfl rfl ?_
 intro s w he
 repeat' (first
|refine zA ?_
|refine zI ?_
|refine zb ?_
|apply aw_1
 conv => whnf
 refine ⟨?_,trivial⟩
|apply s_1
 conv => whnf; arg 1; arg 4; arg 3; whnf
 refine ⟨?_,?_⟩
|apply zd rfl
 . conv => lhs; whnf
 . conv => lhs; whnf
 . first | exact h
|refine zH ?_
|refine ⟨_,by conv => lhs; whnf; arg 2; whnf,?_⟩; conv => rhs; whnf
|exact trivial)
 all_goals first
  | exact absurd ‹(true == true) = false› (by decide)
  | rfl
  | exact zo (by decide)
  | exact ⟨rfl,trivial⟩
  | exact congrArg (fun b => V.c (.bool b)) (by decide +kernel)
  | (constructor <;> decide)
theorem idxF_z : AC EN5 Tryz.prog 52 [.sl 50 [eF],.c (.func (.func 24) #[] #[])] (.c (.int .i64 (-1))):=by
 refine zX 19 Tryz.func52 rfl rfl rfl rfl ?_
 intro s w he
 repeat' (first
|apply zAe 7
|refine k_rnd ?_
|refine zAb ?_
|apply zW
 . conv => lhs; whnf
 . decide +kernel
|apply zS
 . conv => lhs; whnf
 . decide +kernel
|refine zA ?_
|refine zI ?_
|refine zb ?_
|refine zU ?_
|apply aw_1
 conv => whnf
 refine ⟨?_,trivial⟩
|apply s_1
 conv => whnf; arg 1; arg 4; arg 3; whnf
 refine ⟨?_,?_⟩
|apply zd rfl
 . conv => lhs; whnf
 . conv => lhs; whnf
 . first | exact right2_z
|refine zG ?_
|refine zB rfl ?_
|refine zH ?_
|refine ⟨_,by conv => lhs; whnf; arg 2; whnf,?_⟩; conv => rhs; whnf
|exact trivial)
 all_goals first
  | exact absurd ‹(true == true) = false› (by decide)
  | rfl
  | exact zo (by decide)
  | exact ⟨rfl,trivial⟩
  | exact congrArg (fun b => V.c (.bool b)) (by decide +kernel)
  | (constructor <;> decide)
theorem hasF_z : AC EN5 Tryz.prog 23 [.sl 50 [eF],.c (.func (.func 24) #[] #[])] (.c (.bool false)):=by
 have h:=idxF_z
 refine zX 9 Tryz.func23 rfl rfl rfl rfl ?_
 intro s w he
 repeat' (first
|refine zA ?_
|refine zI ?_
|refine zb ?_
|apply aw_1
 conv => whnf
 refine ⟨?_,trivial⟩
|apply s_1
 conv => whnf; arg 1; arg 4; arg 3; whnf
 refine ⟨?_,?_⟩
|apply zd rfl
 . conv => lhs; whnf
 . conv => lhs; whnf
 . first | exact h
|refine zH ?_
|refine ⟨_,by conv => lhs; whnf; arg 2; whnf,?_⟩; conv => rhs; whnf
|exact trivial)
 all_goals first
  | exact absurd ‹(true == true) = false› (by decide)
  | rfl
  | exact zo (by decide)
  | exact ⟨rfl,trivial⟩
  | exact congrArg (fun b => V.c (.bool b)) (by decide +kernel)
  | (constructor <;> decide)
theorem right_z : AC EN5 Tryz.prog 7 [.agg [.sl 47 [eO],.sl 50 [eF]]] (.c (.bool true)):=by
 have h1:=hasV_z
 have h2:=sels2_z
 have h3:=hasF_z
 refine zX 65 Tryz.func7 rfl rfl rfl rfl ?_
 intro s w he
 repeat' (first
|apply zq rfl rfl rfl
 . conv => lhs; whnf
 . first | rfl | assumption | decide +kernel
 . conv => lhs; whnf
 . first | decide +kernel | rfl
|apply zAe 7
|refine k_rnd ?_
|refine zAb ?_
|apply zW
 . conv => lhs; whnf
 . decide +kernel
|apply zS
 . conv => lhs; whnf
 . decide +kernel
|refine zA ?_
|refine zI ?_
|refine zb ?_
|refine zU ?_
|apply aw_1
 conv => whnf
 refine ⟨?_,trivial⟩
|apply ze rfl rfl
 . conv => lhs; whnf
 . conv => lhs; whnf
 . first | decide +kernel
|apply s_1
 conv => whnf; arg 1; arg 4; arg 3; whnf
 refine ⟨?_,?_⟩
|apply zd rfl
 . conv => lhs; whnf
 . conv => lhs; whnf
 . first | exact zAi _ (by decide) (by kernel_rfl) | exact h1 | exact h2 | exact h3
|apply zAC rfl rfl rfl rfl
 . conv => lhs; whnf; arg 1; whnf
 . rfl
|apply zr rfl rfl rfl
 . conv => lhs; whnf
 . conv => lhs; whnf; arg 1; whnf
 . conv => lhs; whnf; arg 1; whnf
 . exact ⟨by kernel_rfl,by kernel_rfl⟩
 . rfl
|apply zM rfl
 . conv => lhs; whnf
 . conv => lhs; whnf
 . first | rfl | assumption | decide +kernel
 . conv => lhs; whnf; arg 2; whnf
|apply zR rfl
 . conv => lhs; whnf
 . conv => lhs; whnf
 . first | rfl | assumption | decide +kernel
 . conv => lhs; whnf
 . first | exact zAi _ (by decide) (by kernel_rfl) | exact h1 | exact h2 | exact h3
|refine zG ?_
|refine zB rfl ?_
|refine zH ?_
|refine ⟨_,by conv => lhs; whnf; arg 2; whnf,?_⟩; conv => rhs; whnf
|exact trivial)
 all_goals first
  | exact absurd ‹(true == true) = false› (by decide)
  | rfl
  | exact zo (by decide)
  | exact ⟨rfl,trivial⟩
  | exact congrArg (fun b => V.c (.bool b)) (by decide +kernel)
  | (constructor <;> decide)
end Go.Proofs.YtdlnnlglmifceaaGreatDoor
namespace Go.Proofs.YtdlnnlglmifceaaGreatDoor
open Go.RowKit
set_option linter.unusedSectionVars false
attribute [local irreducible] wpList Calls Code.wp AW AWo OpOk seqK zAP zAR loopK endK AC zy Yld Sub
attribute [local irreducible] ACB ACX ACE absLexG YldG
theorem namedZ_ac (s : ByteArray) : AC EN5 Tryz.prog 17 [.c (.string s)] (.agg (cellsV Tryz.prog 12 59 (.obj [.str s,.list []]))):=by
 refine zX 5 Tryz.func17 rfl rfl rfl rfl ?_
 intro σ w he
 repeat' (first
|apply zA5 ((.agg (cellsV Tryz.prog 12 59 (.obj [.str s,.list []])))) rfl rfl
 . conv => lhs; whnf; arg 2; whnf
 . repeat' (first | exact VLe.refl _ | exact VLe.nil _ | exact VLe.lit _ _ | exact VLe.own _ _ _ | apply VLe.agg | apply VLeL.cons | exact VLeL.nil)
|refine zA ?_
|refine zI ?_
|refine zb ?_
|refine zU ?_
|refine za ?_
|apply aw_1
 conv => whnf
 refine ⟨?_,trivial⟩
|apply s_1
 conv => whnf; arg 1; arg 4; arg 3; whnf
 refine ⟨?_,?_⟩
|apply zt rfl
 . conv => lhs; whnf
 . conv => lhs; whnf; arg 2; whnf
|apply zAA rfl rfl rfl rfl
 . conv => lhs; whnf; arg 1; whnf
 . rfl
|apply zr rfl rfl rfl
 . conv => lhs; whnf
 . conv => lhs; whnf; arg 1; whnf
 . conv => lhs; whnf; arg 1; whnf
 . exact ⟨by kernel_rfl,by kernel_rfl⟩
 . rfl
|apply zN
 . conv => lhs; whnf; arg 1; arg 1; whnf
|apply zO
 . conv => lhs; whnf; arg 1; arg 1; whnf
|refine zT (by conv => lhs; whnf) ?_ ?_ <;> intro hb
|refine zj ?_
|refine zZ ?_
|refine zG ?_
|refine zK ?_
|refine zC ?_
|refine zB rfl ?_
|refine zE rfl ?_
|refine zF ?_
|refine zJ ?_
|refine zD ?_
|refine zL ?_
|refine z6 ?_
|refine zH ?_
|refine ⟨_,by conv => lhs; whnf; arg 2; whnf,?_⟩; conv => rhs; whnf
|exact trivial
|intro hg)
 rfl
theorem ffZ_t {b : Bool} (h : b = false) (h2 : b = true) : False:=by rw [h] at h2; cases h2
theorem ofZ_dec {p : Prop} [Decidable p] (h : decide p = true) : p:=of_decide_eq_true h
def opXz : D:=gD (exQ.f 0).l 0
def vaXz : D:=gD (opXz.f 2).l 0
theorem ex_ops : (exQ.f 0).l = [eO]:=by kernel_rfl
theorem ex_frs : (exQ.f 1).l = [eF]:=by kernel_rfl
theorem knowsZ_ac : AC EN5 Tryz.prog 6 [] (.c (.bool true)):=by
 have h1 : AC EN5 Tryz.prog 15 [.c (.string { data:=([113,117,101,114,121,32,113,40,36,110,58,32,73,110,116,32,61,32,49,41,32,123,32,97,58,32,117,115,101,114,40,105,100,58,32,36,110,41,32,123].append [32,110,97,109,101,32,46,46,46,102,32,125,32,125,32,102,114,97,103,109,101,110,116,32,102,32,111,110,32,85,115,101,114,32,123,32,105,100,32,125]).toArray })] (parseW (.ok exQ)):=by
  have:=zHm exT (by decide)
  rw [ex_parse] at this
  exact this
 have h2 : AC EN5 Tryz.prog 15 [.c (.string { data:=#[123,32,125] })] (parseW (.error (2,3))):=by
  have:=zHm [123,32,125] (by decide)
  rw [ex_bad] at this
  exact this
 have h3:=right_z
 rw [<- ex_ops,<- ex_frs] at h3
 have h4:=namedZ_ac { data:=#[73,110,116] }
 have et : vaXz.f 1 = .obj [.str { data:=#[73,110,116] },.list []]:=by kernel_rfl
 have h5:=sameRef_ac (.obj [.str { data:=#[73,110,116] },.list []]) (by decide)
 refine zX 146 Tryz.func6 rfl rfl rfl rfl ?_
 intro s w he
 repeat' (first
|apply s_wanted_pick_t rfl rfl rfl
 . conv => lhs; whnf
 . first | rfl | assumption
 . conv => lhs; whnf
 . first | exact bT1 ‹_› | exact bT2 ‹_› | rfl
|apply zq rfl rfl rfl
 . conv => lhs; whnf
 . first | rfl | assumption
 . conv => lhs; whnf
 . first | exact bT1 ‹_› | exact bT2 ‹_› | rfl
|apply s_wanted_pick_f rfl rfl rfl
 . conv => lhs; whnf
 . first | rfl | assumption
 . conv => lhs; whnf
 . first | exact bF1 ‹_› | exact bF2 ‹_› | rfl
|apply zu rfl rfl rfl
 . conv => lhs; whnf
 . first | rfl | assumption
 . conv => lhs; whnf
 . first | exact bF1 ‹_› | exact bF2 ‹_› | rfl
|apply zW
 . conv => lhs; whnf
 . assumption
|apply zS
 . conv => lhs; whnf
 . assumption
|refine zi ?_
|refine zf ?_
|refine zAH ?_
|refine zA ?_
|refine zI ?_
|refine zb ?_
|refine zU ?_
|refine za ?_
|apply aw_1
 conv => whnf
 refine ⟨?_,trivial⟩
|apply zg rfl rfl
 . conv => lhs; whnf
 . conv => lhs; whnf
 . first | exact bT1 ‹_› | exact bT2 ‹_›
|apply ze rfl rfl
 . conv => lhs; whnf
 . conv => lhs; whnf
 . first | exact bF1 ‹_› | exact bF2 ‹_›
|apply s_1
 conv => whnf; arg 1; arg 4; arg 3; whnf
 refine ⟨?_,?_⟩
|apply zt rfl
 . conv => lhs; whnf
 . conv => lhs; whnf; arg 2; whnf
|apply zd rfl
 . conv => lhs; whnf
 . conv => lhs; whnf
 . first | exact h1 | exact h2 | exact h3 | exact h4 | exact h5
|apply zAA rfl rfl rfl rfl
 . conv => lhs; whnf; arg 1; whnf
 . rfl
|apply zr rfl rfl rfl
 . conv => lhs; whnf
 . conv => lhs; whnf; arg 1; whnf
 . conv => lhs; whnf; arg 1; whnf
 . exact ⟨by kernel_rfl,by kernel_rfl⟩
 . rfl
|apply zM rfl
 . conv => lhs; whnf
 . conv => lhs; whnf
 . first | rfl | assumption
 . conv => lhs; whnf; arg 2; whnf
|apply zR rfl
 . conv => lhs; whnf
 . conv => lhs; whnf
 . first | rfl | assumption
 . conv => lhs; whnf
 . first | exact h1 | exact h2 | exact h3 | exact h4 | exact h5
|apply zl rfl
 . conv => lhs; whnf
 . conv => lhs; whnf
 . first | rfl | assumption
|apply zAI rfl
 . conv => lhs; whnf
 . rfl
 . rfl
|apply zP rfl
 . conv => lhs; whnf
 . conv => lhs; whnf
 . conv => lhs; whnf; arg 2; whnf
|apply zp rfl
 . conv => lhs; whnf
 . conv => lhs; whnf
 . conv => lhs; whnf
 . first | exact h1 | exact h2 | exact h3 | exact h4 | exact h5
|apply zn rfl
 . conv => lhs; whnf
 . conv => lhs; whnf
 . conv => lhs; whnf; arg 2; whnf
|apply zk rfl
 . conv => lhs; whnf
 . conv => lhs; whnf
 . conv => lhs; whnf
 . first | exact h1 | exact h2 | exact h3 | exact h4 | exact h5
|apply zAm (by kernel_rfl) (by kernel_rfl)
|apply zB6
|apply zBh rfl rfl
 . conv => lhs; whnf
 . conv => lhs; whnf
 . first | exact bT1 ‹_› | exact bT2 ‹_›
|apply zBi rfl rfl
 . conv => lhs; whnf
 . conv => lhs; whnf
 . first | exact bF1 ‹_› | exact bF2 ‹_›
|apply zB5 rfl
 . conv => lhs; whnf
 . conv => lhs; whnf; arg 2; whnf
|apply zCp rfl
 . conv => lhs; whnf
 . conv => lhs; whnf
 . first | exact h1 | exact h2 | exact h3 | exact h4 | exact h5
|apply zCh rfl rfl rfl
 . conv => lhs; whnf
 . rfl
 . rfl
 . conv => lhs; whnf; arg 1; whnf
 . conv => lhs; whnf; arg 1; whnf
 . exact ⟨by kernel_rfl,by kernel_rfl⟩
 . rfl
|apply zAd rfl
 . conv => lhs; whnf
 . conv => lhs; whnf
 . first | rfl | assumption
 . conv => lhs; whnf; arg 2; whnf
|apply zAa rfl
 . conv => lhs; whnf
 . conv => lhs; whnf
 . first | rfl | assumption
 . conv => lhs; whnf
 . first | exact h1 | exact h2 | exact h3 | exact h4 | exact h5
|apply zCc rfl
 . conv => lhs; whnf
 . conv => lhs; whnf
 . first | rfl | assumption
|apply zAq rfl
 . conv => lhs; whnf
 . conv => lhs; whnf
 . conv => lhs; whnf; arg 2; whnf
|apply zAf rfl
 . conv => lhs; whnf
 . conv => lhs; whnf
 . conv => lhs; whnf
 . first | exact h1 | exact h2 | exact h3 | exact h4 | exact h5
|exact zAG
|exact zAK
|exact all_nil
|show List.all _ _ = true; rfl
|show zAl _ _ = true; rfl
|exact ([] : List Nat)
|exact (1000000 : Nat)
|apply zN
 . conv => lhs; whnf; arg 1; arg 1; whnf
|apply zO
 . conv => lhs; whnf; arg 1; arg 1; whnf
|refine zT (by conv => lhs; whnf) ?_ ?_ <;> intro hb
|refine zj ?_
|refine zZ ?_
|refine zG ?_
|refine zK ?_
|refine zC ?_
|refine zB rfl ?_
|refine zE rfl ?_
|refine zF ?_
|refine zJ ?_
|refine zD ?_
|refine zL ?_
|refine z6 ?_
|refine zH ?_
|refine ⟨_,by conv => lhs; whnf; arg 2; whnf,?_⟩; conv => rhs; whnf
|exact trivial
|intro hg)
 all_goals first
  | exact ofZ_dec (by kernel_rfl)
  | exact (ffZ_t ‹_› (by kernel_rfl)).elim
end Go.Proofs.YtdlnnlglmifceaaGreatDoor
namespace Go.Proofs.YtdlnnlglmifceaaGreatDoor
open Go.RowKit
attribute [local irreducible] wpList Calls Code.wp AW AWo OpOk seqK zAP zAR loopK endK AC zy Yld Sub
structure VarsOk (K : Nat) (l : List D) : Prop where
 wide : ∀ i,wideD (gD l i)
 bulk : bulkL l <= 1048576
 dp : ∀ i,i < l.length -> Dp K ((gD l i).f 3)
 good : ∀ i,i < l.length -> goodV K ((gD l i).f 3)
structure VarSz (K : Nat) (v : D) : Prop where
 name : (v.f 0).s.size <= 1048576
 rname : ((v.f 1).f 0).s.size <= 1048576
 wraps : ((v.f 1).f 1).l.length <= 1048576
 rtext : (refB (tx ((v.f 1).f 0).s) ((v.f 1).f 1).l).length <= 4000000
 dflt : bulkD (v.f 3) <= 1048576
 dtext : (valT K (v.f 3)).length <= 26000000
end Go.Proofs.YtdlnnlglmifceaaGreatDoor
namespace Go.Proofs.YtdlnnlglmifceaaGreatDoor
open Go.RowKit
attribute [local irreducible] wpList Calls Code.wp AW AWo OpOk seqK zAP zAR loopK endK AC zy Yld Sub
attribute [local irreducible] ACB absLexG YldG
structure DocOk (K f : Nat) (q : D) : Prop where
 wide : wideD q
 bulk : bulkD q <= 1048576
 deep : f <= 299
 vars : ∀ i,i < (q.f 0).l.length -> VarsOk K ((gD (q.f 0).l i).f 2).l
 sels : ∀ i,i < (q.f 0).l.length -> SelsOk K (f + 1) ((gD (q.f 0).l i).f 3).l
 frag : ∀ i,i < (q.f 1).l.length -> SelsOk K (f + 1) ((gD (q.f 1).l i).f 2).l
end Go.Proofs.YtdlnnlglmifceaaGreatDoor
namespace Go.Proofs.YtdlnnlglmifceaaGreatDoor
structure VarF (v : D) : Prop where
 name : nameB (v.f 0).s = true
 rname : nameB ((v.f 1).f 0).s = true
 rlen : ((v.f 1).f 1).l.length <= 24
 wraps : zDX (((v.f 1).f 1).l.map D.n) = true
 has : (v.f 2).b = true -> litR (v.f 3) = true /\ bareR (bulkD (v.f 3)) (v.f 3) = true
 hasnt : (v.f 2).b = false -> ((v.f 3).f 0).n = 0 /\ ((v.f 3).f 1).n = 0 /\ tx ((v.f 3).f 2).s = [] /\ ((v.f 3).f 3).l.length = 0 /\ ((v.f 3).f 4).l.length = 0
structure OpF (o : D) : Prop where
 kind : 1 <= (o.f 0).n /\ (o.f 0).n <= 3
 name : tx (o.f 1).s = [] \/ nameB (o.f 1).s = true
 vlen : (o.f 2).l.length <= 16
 vars : ∀ i,i < (o.f 2).l.length -> VarF (gD (o.f 2).l i)
 sels : SetF (fun d => selR (bulkL (o.f 3).l) 1 d = true) 1 (o.f 3).l 1
end Go.Proofs.YtdlnnlglmifceaaGreatDoor
namespace Go.Proofs.YtdlnnlglmifceaaGreatDoor
open Go.RowKit
theorem fits_l {P : Program} {t e : TypeId} (hu : P.underlying t = some (.slice e)) {k : Nat} {d : D} (h : Fits P k t d) : ∃ j l,d = .list l /\ ∀ i,i < l.length -> Fits P j e (gD l i):=by
 cases k with
 | zero => exact h.elim
 | succ k => unfold Fits at h; rw [hu] at h; exact ⟨k,h⟩
theorem fits_o {P : Program} {t : TypeId} {fs : Array Field} (hu : P.underlying t = some (.struct fs)) {k : Nat} {d : D} (h : Fits P k t d) : ∃ j l,d = .obj l /\ l.length = fs.size /\ ∀ i f,fs[i]? = some f -> Fits P j f.type (gD l i):=by
 cases k with
 | zero => exact h.elim
 | succ k => unfold Fits at h; rw [hu] at h; exact ⟨k,h⟩
theorem len2 {l : List D} (h : l.length = 2) : l = [gD l 0,gD l 1]:=by
 match l,h with
 | [a,b],_ => rfl
end Go.Proofs.YtdlnnlglmifceaaGreatDoor
namespace Go.Proofs.YtdlnnlglmifceaaGreatDoor
open Go.RowKit
attribute [local irreducible] wpList Calls Code.wp
def sg0 (W : World) : Sg:=⟨fun b o => (W.cell? ⟨b,o,none⟩).isSome,fun _ => none,fun _ => none,fun _ => (undef,0)⟩
theorem zFK {P : Program} {w : World} {n : String} {g : Nat} {cs : Array Value} (hg : P.globalNamed n = some g) (h : w.var? P n = some cs) : g + 1 <= w.heap.size:=by
 unfold World.var? at h
 rw [hg] at h
 simp only [Option.bind_some] at h
 rcases Nat.lt_or_ge g w.heap.size with h' | h'
 . exact h'
 . rw [Array.getElem?_eq_none h'] at h; cases h
theorem en5_of {W : World} (h : Env W) : EN5.E W:=by
 obtain ⟨h1,⟨tp,p,h2⟩,⟨tp',p',h3⟩⟩:=id h
 have a1:=zFK gPow h1
 have a2:=zFK gErrR h2
 have a3:=zFK gErrS h3
 exact ⟨h,Nat.max_le.2 ⟨a1,Nat.max_le.2 ⟨a2,a3⟩⟩⟩
theorem zGh {f : FuncId} {args : List V} {W : World} {us : Array Value} (h : AC EN5 Tryz.prog f args (.c (.bool true))) (hr : relL Tryz.prog (sg0 W) W args us.toList) (he : Env W) : Calls Tryz.prog f us W fun e W' => e = .returned (.bool true) /\ Below W.heap.size W W':=by
 refine (h (sg0 W) W us hr (fun b o h => h) (en5_of he)).mono ?_
 rintro e W' ⟨v,F',rfl,hfr,-,-,-,hv⟩
 rw [rel] at hv
 obtain ⟨rfl,-⟩:=hv
 exact ⟨rfl,hfr.below⟩
theorem relL1 {P : Program} {s : Sg} {w : World} {v : V} {u : Value} (h : rel P s w v u) : relL P s w [v] (#[u] : Array Value).toList:=by
 show relL P s w [v] [u]
 rw [relL]; exact ⟨h,by simp [relL]⟩
end Go.Proofs.YtdlnnlglmifceaaGreatDoor
namespace Go.Proofs.YtdlnnlglmifceaaGreatDoor
open Go.ChangeShapes Go.WideShapes Go.ChangeAt Go.RowKit
attribute [local irreducible] wpList Calls Code.wp
theorem arg_in {H : Type} {enc : TypeId × Value -> H} {W : World} {v : Value} {base : Nat} {dw : DataW H} {ps : List MemPlace} {t : TypeId} {fs : Array Field} (ht : Tryz.prog.underlying t = some (.struct fs)) (hv : Value.okWide Tryz.prog W .any base t v)
 (hd : DataW.Trod enc Tryz.prog W 0 (fun _ => true) true t v dw ps) :
 ∃ (k : Nat) (cs : Array Value) (d : D),v = .agg cs /\ Rep Tryz.prog W (fun b => b < W.heap.size) k t cs.toList d /\ Fits Tryz.prog k t d /\ bulkD d <= Rows.uptoBulk dw:=by
 obtain ⟨cs,rfl,_⟩:=okWide_struct ht hv
 obtain ⟨k,hk⟩:=hd
 obtain ⟨d,h1,h2,h3⟩:=zCF hk
 exact ⟨k,cs,d,rfl,by simpa [Value.cells] using h1,h2,h3⟩
theorem rep_len {P : Program} {w : World} {I : Nat -> Prop} {k : Nat} {t : TypeId} {cs : List Value} {d : D} {fs : Array Field} (ht : P.underlying t = some (.struct fs)) (h : Rep P w I k t cs d) : cs.length = P.cellsOf t:=by
 cases k with
 | zero => exact h.elim
 | succ k => unfold Rep at h; rw [ht] at h; exact h.1
theorem cells0 {W : World} {k : Nat} {t : TypeId} {cs : Array Value} {d : D} {fs : Array Field} (ht : Tryz.prog.underlying t = some (.struct fs)) (hl : layB Tryz.prog 12 t = true) (hr : Rep Tryz.prog W (fun b => b < W.heap.size) k t cs.toList d) : rel Tryz.prog (sg0 W) W (.agg (cellsV Tryz.prog 12 t d)) (.agg cs):=by
 rw [rel]
 exact ⟨cs,rfl,zC9 (s:=sg0 W) 12 k t cs.toList d (RepF.of_rep hr fun b o _ h => h) (rep_len ht hr) hl⟩
end Go.Proofs.YtdlnnlglmifceaaGreatDoor
namespace Go.Proofs.YtdlnnlglmifceaaGreatDoor
open Go.ChangeShapes Go.WideShapes Go.ChangeAt Go.RowKit
set_option linter.unusedSectionVars false
attribute [local irreducible] wpList Calls Code.wp AW AWo OpOk seqK zAP zAR loopK endK AC zy Yld Sub
attribute [local irreducible] ACB ACX ACE absLexG YldG
theorem beq_selfQ (b : Bool) : (b == b) = true:=by cases b <;> rfl
theorem zGw (a b : List D) : AC EN5 Tryz.prog 3 [.agg [.sl 47 a,.sl 50 b]] (.c (.bool true)):=by
 have h1:=(largeB8_ac a b).five
 have h2:=rightB8_ac a b
 have h3:=(zGx a b).five
 have h4:=knowsZ_ac
 generalize queB8 a b = R at h2 h3
 have g1:=beq_selfQ R
 have K1 : (R == R) = false -> False:=fun h => by rw [g1] at h; cases h
 have K2 : ((R == R) == true) = false -> False:=fun h => by rw [g1] at h; cases h
 cases hl : decide (largeB8 a b > 600)
 all_goals
  rw [hl] at h1
  refine zX 14 Tryz.func3 rfl rfl rfl rfl ?_
  intro s w he
  repeat' (first
|apply s_wanted_pick_t rfl rfl rfl
 . conv => lhs; whnf
 . first | rfl | assumption
 . conv => lhs; whnf
 . first | exact bT1 ‹_› | exact bT2 ‹_› | rfl
|apply zq rfl rfl rfl
 . conv => lhs; whnf
 . first | rfl | assumption
 . conv => lhs; whnf
 . first | exact bT1 ‹_› | exact bT2 ‹_› | rfl
|apply s_wanted_pick_f rfl rfl rfl
 . conv => lhs; whnf
 . first | rfl | assumption
 . conv => lhs; whnf
 . first | exact bF1 ‹_› | exact bF2 ‹_› | rfl
|apply zu rfl rfl rfl
 . conv => lhs; whnf
 . first | rfl | assumption
 . conv => lhs; whnf
 . first | exact bF1 ‹_› | exact bF2 ‹_› | rfl
|apply zW
 . conv => lhs; whnf
 . assumption
|apply zS
 . conv => lhs; whnf
 . assumption
|exact (K1 ‹_›).elim
|exact (K2 ‹_›).elim
|refine zi ?_
|refine zf ?_
|refine zAH ?_
|refine zA ?_
|refine zI ?_
|refine zb ?_
|refine zU ?_
|refine za ?_
|apply aw_1
 conv => whnf
 refine ⟨?_,trivial⟩
|apply zg rfl rfl
 . conv => lhs; whnf
 . conv => lhs; whnf
 . first | exact bT1 ‹_› | exact bT2 ‹_›
|apply ze rfl rfl
 . conv => lhs; whnf
 . conv => lhs; whnf
 . first | exact bF1 ‹_› | exact bF2 ‹_›
|apply s_1
 conv => whnf; arg 1; arg 4; arg 3; whnf
 refine ⟨?_,?_⟩
|apply zt rfl
 . conv => lhs; whnf
 . conv => lhs; whnf; arg 2; whnf
|apply zd rfl
 . conv => lhs; whnf
 . conv => lhs; whnf
 . first | exact h1 | exact h2 | exact h3 | exact h4
|apply zAC rfl rfl rfl rfl
 . conv => lhs; whnf; arg 1; whnf
 . rfl
|apply zM rfl
 . conv => lhs; whnf
 . conv => lhs; whnf
 . first | rfl | assumption
 . conv => lhs; whnf; arg 2; whnf
|apply zR rfl
 . conv => lhs; whnf
 . conv => lhs; whnf
 . first | rfl | assumption
 . conv => lhs; whnf
 . first | exact h1 | exact h2 | exact h3 | exact h4
|apply zl rfl
 . conv => lhs; whnf
 . conv => lhs; whnf
 . first | rfl | assumption
|apply zAI rfl
 . conv => lhs; whnf
 . rfl
 . rfl
|apply zP rfl
 . conv => lhs; whnf
 . conv => lhs; whnf
 . conv => lhs; whnf; arg 2; whnf
|apply zp rfl
 . conv => lhs; whnf
 . conv => lhs; whnf
 . conv => lhs; whnf
 . first | exact h1 | exact h2 | exact h3 | exact h4
|apply zn rfl
 . conv => lhs; whnf
 . conv => lhs; whnf
 . conv => lhs; whnf; arg 2; whnf
|apply zk rfl
 . conv => lhs; whnf
 . conv => lhs; whnf
 . conv => lhs; whnf
 . first | exact h1 | exact h2 | exact h3 | exact h4
|apply zAm (by kernel_rfl) (by kernel_rfl)
|apply zB6
|apply zBh rfl rfl
 . conv => lhs; whnf
 . conv => lhs; whnf
 . first | exact bT1 ‹_› | exact bT2 ‹_›
|apply zBi rfl rfl
 . conv => lhs; whnf
 . conv => lhs; whnf
 . first | exact bF1 ‹_› | exact bF2 ‹_›
|apply zB5 rfl
 . conv => lhs; whnf
 . conv => lhs; whnf; arg 2; whnf
|apply zCp rfl
 . conv => lhs; whnf
 . conv => lhs; whnf
 . first | exact h1 | exact h2 | exact h3 | exact h4
|apply zAd rfl
 . conv => lhs; whnf
 . conv => lhs; whnf
 . first | rfl | assumption
 . conv => lhs; whnf; arg 2; whnf
|apply zAa rfl
 . conv => lhs; whnf
 . conv => lhs; whnf
 . first | rfl | assumption
 . conv => lhs; whnf
 . first | exact h1 | exact h2 | exact h3 | exact h4
|apply zCc rfl
 . conv => lhs; whnf
 . conv => lhs; whnf
 . first | rfl | assumption
|apply zAq rfl
 . conv => lhs; whnf
 . conv => lhs; whnf
 . conv => lhs; whnf; arg 2; whnf
|apply zAf rfl
 . conv => lhs; whnf
 . conv => lhs; whnf
 . conv => lhs; whnf
 . first | exact h1 | exact h2 | exact h3 | exact h4
|exact zAG
|exact zAK
|exact all_nil
|show List.all _ _ = true; rfl
|show zAl _ _ = true; rfl
|exact ([] : List Nat)
|exact (1000000 : Nat)
|apply zN
 . conv => lhs; whnf; arg 1; arg 1; whnf
|apply zO
 . conv => lhs; whnf; arg 1; arg 1; whnf
|refine zT (by conv => lhs; whnf) ?_ ?_ <;> intro hb
|refine zj ?_
|refine zZ ?_
|refine zG ?_
|refine zK ?_
|refine zC ?_
|refine zB rfl ?_
|refine zE rfl ?_
|refine zF ?_
|refine zJ ?_
|refine zD ?_
|refine zL ?_
|refine z6 ?_
|refine zH ?_
|refine ⟨_,by conv => lhs; whnf; arg 2; whnf,?_⟩; conv => rhs; whnf
|exact trivial
|intro hg)
  all_goals first
   | rfl
   | exact (show Tryz.prog.underlying 4 = some TypeDesc.bool by kernel_rfl)
   | skip
theorem que_inU {H : Type} {enc : TypeId × Value -> H} {W : World} {v : Value} {base : Nat} {dw : DataW H} {ps : List MemPlace} (hv : Value.okWide Tryz.prog W .any base 25 v) (hd : DataW.Trod enc Tryz.prog W 0 (fun _ => true) true 25 v dw ps) :
 ∃ (cs : Array Value) (a b : List D),v = .agg cs /\ rel Tryz.prog (sg0 W) W (.agg [.sl 47 a,.sl 50 b]) (.agg cs):=by
 obtain ⟨k,cs,d,rfl,hr,hf,hbk⟩:=arg_in Tryz.underlying25 hv hd
 obtain ⟨j,l,rfl,hl,hfs⟩:=fits_o Tryz.underlying25 hf
 have hl : l.length = 2:=hl
 obtain ⟨j0,l0,e0,-⟩:=fits_l Tryz.underlying22 (hfs 0 _ rfl)
 obtain ⟨j1,l1,e1,-⟩:=fits_l Tryz.underlying23 (hfs 1 _ rfl)
 have el : l = [.list l0,.list l1]:=by rw [len2 hl,e0,e1]
 subst el
 exact ⟨cs,l0,l1,rfl,cells0 Tryz.underlying25 (by kernel_rfl) hr⟩
theorem rowRight {H : Type} {enc : TypeId × Value -> H} {W : World} {v : Value} {base : Nat} {dw : DataW H} {ps : List MemPlace} (hv : Value.okWide Tryz.prog W .any base 25 v) (hd : DataW.Trod enc Tryz.prog W 0 (fun _ => true) true 25 v dw ps) (he : Env W) :
 Calls Tryz.prog 3 #[v] W fun e W' => e = .returned (.bool true) /\ Below W.heap.size W W':=by
 obtain ⟨cs,a,b,rfl,hr⟩:=que_inU hv hd
 exact zGh (zGw a b) (relL1 hr) he
end Go.Proofs.YtdlnnlglmifceaaGreatDoor
namespace Go.Proofs.YtdlnnlglmifceaaGreatDoor
open Go.ChangeShapes Go.WideShapes Go.ChangeAt Go.RowKit
attribute [local irreducible] wpList Calls Code.wp
theorem zC8 (H : Type) (enc : TypeId × Value -> H) (W : World) (base : Nat) (args : Array Value) (ds gs : List (DataW H)) (before : List MemPlace)
 (hval : ∀ (j : Nat) t v,Tryz.f3.params[j]? = some t -> args[j]? = some v -> Value.okWide Tryz.prog W .any base t v)
 (hW : DataW.Whole enc Tryz.prog Tryz.f3.params.toList Rows.queryRightSpec.vars false W args.toList ds gs before) (hL : laidMetH Tryz.prog Rows.queryRightRow.laid W)
 (hR : (DataW.weightsEach Tryz.prog (Tryz.f3.params.toList ++ (OpenSpec.ofChange Rows.queryRightSpec).bare.plain.varTypes Tryz.prog) (ds ++ gs)).all (· <= reachBytes) = true) :
 Calls Tryz.prog 3 args W fun e W' => ∃ v,e = .returned v /\ Rows.queryRightSpec.post enc Tryz.prog Tryz.f3 false true false false W args v W':=by
 have hW':=hW
 obtain ⟨p,q,hA0,hV,rfl,hfz,hnd⟩:=hW
 have hA : DataW.TrodAll enc Tryz.prog W 0 (fun _ => true) true Tryz.f3.params.toList args.toList ds p:=hA0
 rw [Tryz.params3] at hA hval hR
 obtain ⟨v0,vs0,d0,ds0,p0,q0,hargs,rfl,rfl,h0,r0⟩:=trodAll_cons hA
 obtain ⟨rfl,rfl,rfl⟩:=trodAll_nil r0
 obtain rfl : args = #[v0]:=by cases args; simp_all
 refine (rowRight (hval 0 25 v0 rfl rfl) h0 (zHG hL)).mono fun e W' ⟨he,hbel⟩ => ?_
 subst he
 exact ⟨_,rfl,post_true laidOut' (types_ok _ (by kernel_rfl)) Tryz.underlying4 rfl rfl hW' hbel (fun gs h => by subst h; rfl)⟩
theorem laid_metQueryRight (os : Os) : laidMet Tryz.prog Rows.queryRightRow.laid ((laidWorld os).forCall (fun _ _ => 0) ⟨#[],#[.agg #[.slice none 0 0,.slice none 0 0]],[]⟩).memory:=
 laidMet_of_run' 8 (by kernel_rfl) (by kernel_rfl)
theorem zD9 (os : Os) {H : Type} (enc : TypeId × Value -> H) : ∃ places,DataW.whole enc Tryz.prog ((laidWorld os).forCall (fun _ _ => 0) ⟨#[],#[.agg #[.slice none 0 0,.slice none 0 0]],[]⟩).memory Tryz.f3.params.toList Rows.queryRightSpec.vars false (#[.agg #[.slice none 0 0,.slice none 0 0]] : Array Value).toList 8 = some ([.agg [.nil,.nil]],[],places):=
 ⟨[],by kernel_rfl⟩
theorem zDe (os : Os) (started : os.Started) (H : Type) (enc : TypeId × Value -> H) (F : Stop.Interp) :
 ReturnsInHanded {} Tryz.checked os 3 .any ((OpenSpec.ofChange Rows.queryRightSpec).preRow enc Tryz.prog Tryz.f3 Rows.queryRightRow.domain false Rows.queryRightRow.laid) (((OpenSpec.ofChange Rows.queryRightSpec).at F).post enc Tryz.prog Tryz.f3 false true false false):=by
 obtain ⟨places,hx⟩:=zD9 os enc
 refine returnsInHanded_of_row (C:=Tryz.checked) (s:=OpenSpec.ofChange Rows.queryRightSpec) own started (by kernel_rfl) Tryz.func3
  (witness_row_at (enc:=enc) (C:=Tryz.checked) false (laidWorld os) #[.agg #[.slice none 0 0,.slice none 0 0]] rfl (by kernel_rfl) (by kernel_rfl) (by kernel_rfl)
    (OpenSpec.preRow_of_cond 8 hx (by kernel_rfl) (fun k hk => by cases hk) (by kernel_rfl) (laid_metQueryRight os))) ?_
 intro W base args ds gs before hval hW _ _ hR hL _ _
 exact zC8 H enc W base args ds gs before hval hW hL hR
theorem zEU {a b : Bool} (h1 : a = true) (h2 : b = true) : (a && b) = true:=by rw [h1,h2]; rfl
theorem zDf : joinedFacts Tryz.prog 3 Tryz.f3 (OpenSpec.ofChange Rows.queryRightSpec).bare Rows.queryRightRow = true:=by
 unfold joinedFacts
 repeat' (with_reducible apply zEU)
 all_goals as_aux_lemma => kernel_rfl
theorem zEX : Rows.QueryRightSaid:=
 OpenClaim.holds_of_cond 3 Tryz.f3 rfl rfl rfl rfl rfl rfl rfl ⟨rfl,rfl,rfl,rfl,rfl⟩ rfl rfl rfl rfl rfl (by kernel_rfl) Tryz.func3 zDf
  (of_decide_eq_true (by kernel_rfl)) (by unfold Func.isWrapper; first | (rw [if_pos (by decide +kernel)]; kernel_rfl) | (rw [if_neg (by decide +kernel)]; exact ⟨rfl,rfl⟩))
  (fun os started H enc _ F => by rw [OpenClaim.pre_eq_preRow]; exact zDe os started H enc F)
theorem zEA (f : FuncId) (fn : Func) (hf : Tryz.pinned.checked.prog.funcNamed "supergraph/supergraphlaw08.QueryRight" = some f) (hfn : Tryz.pinned.checked.prog.funcs[f]? = some fn) :
 true = Tryz.pinned.checked.prog.looks [] /\ ∀ (j : Nat) t,fn.params[j]? = some t -> Tryz.pinned.checked.prog.wantsStandIn t = false:=by
 obtain rfl : f = 3 := Option.some.inj ((show Tryz.prog.funcNamed "supergraph/supergraphlaw08.QueryRight" = some 3 by kernel_rfl).symm.trans hf) |>.symm
 obtain rfl : fn = Tryz.f3:=(Option.some.inj (Tryz.func3.symm.trans hfn)).symm
 refine ⟨by kernel_rfl,fun j t ht => ?_⟩
 rw [Tryz.params3] at ht
 have hm:=Array.mem_of_getElem? ht
 simp only [List.mem_toArray,List.mem_cons,List.not_mem_nil,or_false] at hm
 rcases hm with rfl
 . exact (show Tryz.prog.wantsStandIn 25 = false by kernel_rfl)
end Go.Proofs.YtdlnnlglmifceaaGreatDoor
