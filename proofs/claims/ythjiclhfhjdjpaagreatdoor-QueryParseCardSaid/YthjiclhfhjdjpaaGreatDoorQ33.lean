import Derived.LoopN
import Derived.Test.YthjiclhfhjdjpaaGreatDoorQ32
set_option maxHeartbeats 20000000
set_option maxRecDepth 100000
set_option linter.unusedVariables false
set_option linter.unusedSimpArgs false
namespace Go.Proofs.YthjiclhfhjdjpaaGreatDoor
open Go.RowKit
attribute [local irreducible] wpList Calls Code.wp
section
variable {X : Cx} {nn : Nat}
def rndK (R : Vst nn -> Prop) (K : Exit -> Vst nn -> Prop) : Exit -> Vst nn -> Prop
 | .normal,st => R st
 | e,st => K e st
def rnd (X : Cx) (c : Code) (K : Exit -> Vst nn -> Prop) : Nat -> Vst nn -> Prop
 | 0,_ => False
 | n + 1,st => AW X c st (rndK (rnd X c K n) K)
theorem zG8 {c : Code} {K : Exit -> Vst nn -> Prop} : ∀ (n : Nat) (st : Vst nn) (s : Sg) (w : World) (a : Act),rnd X c K n st -> Inv X st s w a ->
 Code.rounds X.P c (fun e a' w' => ∃ (st' : Vst nn) (s' : Sg),Inv X st' s' w' a' /\ (K e st' \/ PX X e st')) n a w
 | 0,_,_,_,_,h,_ => h.elim
 | n + 1,st,s,w,a,h,hI => by
   rw [rounds_succ]
   refine Code.wp_mono (fun e a2 w2 ⟨st2,s2,hI2,hK⟩ => ?_) (h s w a hI)
   rcases hK with hK | ⟨pv,rfl,hp⟩
   . cases e
     case normal => exact zG8 n st2 s2 w2 a2 hK hI2
     all_goals exact ⟨st2,s2,hI2,.inl hK⟩
   . exact ⟨st2,s2,hI2,.inr ⟨pv,rfl,hp⟩⟩
theorem zAW {c : Code} {st : Vst nn} {K : Exit -> Vst nn -> Prop} (n : Nat) (h : AW X c st (rndK (rnd X c K n) K)) : AW X (.loop c) st K:=fun s w a hI =>
 wp_loop_rounds (n + 1) (zG8 (n + 1) st s w a h hI)
section
variable {st : Vst nn} {K : Exit -> Vst nn -> Prop} {c : Code}
theorem k_rnd {n : Nat} (h : AW X c st (rndK (rnd X c K n) K)) : rndK (rnd X c K (n + 1)) K .normal st:=h
theorem zAN {R : Vst nn -> Prop} {id : Nat} (h : K (.exit id) st) : rndK R K (.exit id) st:=h
end
end
end Go.Proofs.YthjiclhfhjdjpaaGreatDoor
namespace Go.Proofs.YthjiclhfhjdjpaaGreatDoor
open Go.RowKit
set_option linter.unusedSectionVars false
attribute [local irreducible] wpList Calls Code.wp AW AWo OpOk seqK zAI zAO loopK endK AC zp Yld Sub
attribute [local irreducible] ACB ACX ACE absLexG YldG absLexH rnd
theorem zAZ (s : ByteArray) (hs : s.size <= 100) (h : zEf s = true) : AC EN5 Tryz.prog 76 [.c (.string s)] (.c (.bool true)):=by
 refine zDx (u:=.bool true) fun σ w us hus he => ?_
 obtain ⟨rfl,-⟩:=zER hus
 refine ⟨fun s' w' => rel_b,(nameP s w (by omega)).mono ?_⟩
 rintro e w' ⟨rfl,rfl⟩
 rw [h]
 exact ⟨rfl,Below.refl _ _⟩
def eV : D:=.obj [.int 7,.int 0,.str ⟨#[110]⟩,.list [],.list []]
def eI : D:=.obj [.int 2,.int 1,.str ⟨#[]⟩,.list [],.list []]
def eA : D:=.obj [.str ⟨#[105,100]⟩,eV]
def eT : D:=.obj [.str ⟨#[73,110,116]⟩,.list []]
def eW : D:=.obj [.str ⟨#[110]⟩,eT,.bool true,eI]
def eSel (k : Int) (a n : ByteArray) (g : List D) (l : List D) : D:=.obj [.int k,.str a,.str n,.str ⟨#[]⟩,.list g,.list [],.list l]
def e1 : D:=eSel 1 ⟨#[]⟩ ⟨#[105,100]⟩ [] []
def e2 : D:=eSel 1 ⟨#[]⟩ ⟨#[110,97,109,101]⟩ [] []
def e3 : D:=eSel 2 ⟨#[]⟩ ⟨#[102]⟩ [] []
def e4 : D:=eSel 1 ⟨#[97]⟩ ⟨#[117,115,101,114]⟩ [eA] [e2,e3]
def eO : D:=.obj [.int 1,.str ⟨#[113]⟩,.list [eW],.list [e4]]
def eF : D:=.obj [.str ⟨#[102]⟩,.str ⟨#[85,115,101,114]⟩,.list [e1]]
theorem size_z : AC EN5 Tryz.prog 230 [.agg (cellsV Tryz.prog 12 84 eV)] (.c (.int .i64 1)) /\ AC EN5 Tryz.prog 230 [.agg (cellsV Tryz.prog 12 84 eI)] (.c (.int .i64 1)):=by
 refine ⟨?_,?_⟩
 all_goals
  refine zF 19 Tryz.func230 rfl rfl rfl rfl ?_
  intro s w he
  repeat' (first
|apply zAW 7
|refine zAN ?_
|apply zE
 . conv => lhs; whnf
 . decide +kernel
|refine zA ?_
|refine zB ?_
|refine zG ?_
|apply aw_1
 conv => whnf
 refine ⟨?_,trivial⟩
|apply s_1
 conv => whnf; arg 1; arg 4; arg 3; whnf
 refine ⟨?_,?_⟩
|apply zAV rfl rfl rfl rfl
 . conv => lhs; whnf; arg 1; whnf
 . rfl
|refine zP ?_
|refine zM rfl ?_
|refine zC ?_
|refine ⟨_,by conv => lhs; whnf; arg 2; whnf,?_⟩; conv => rhs; whnf
|exact trivial)
 all_goals first
  | exact absurd ‹(true == true) = false› (by decide)
  | rfl
  | exact zS (by decide)
  | exact ⟨rfl,trivial⟩
  | exact congrArg (fun b => V.c (.bool b)) (by decide +kernel)
  | (constructor <;> decide)
theorem depth_z : AC EN5 Tryz.prog 231 [.agg (cellsV Tryz.prog 12 84 eV)] (.c (.int .i64 1)) /\ AC EN5 Tryz.prog 231 [.agg (cellsV Tryz.prog 12 84 eI)] (.c (.int .i64 1)):=by
 refine ⟨?_,?_⟩
 all_goals
  refine zF 20 Tryz.func231 rfl rfl rfl rfl ?_
  intro s w he
  repeat' (first
|apply zAW 7
|refine zAN ?_
|apply zE
 . conv => lhs; whnf
 . decide +kernel
|refine zA ?_
|refine zB ?_
|refine zG ?_
|apply aw_1
 conv => whnf
 refine ⟨?_,trivial⟩
|apply s_1
 conv => whnf; arg 1; arg 4; arg 3; whnf
 refine ⟨?_,?_⟩
|apply zAV rfl rfl rfl rfl
 . conv => lhs; whnf; arg 1; whnf
 . rfl
|refine zP ?_
|refine zM rfl ?_
|refine zC ?_
|refine ⟨_,by conv => lhs; whnf; arg 2; whnf,?_⟩; conv => rhs; whnf
|exact trivial)
 all_goals first
  | exact absurd ‹(true == true) = false› (by decide)
  | rfl
  | exact zS (by decide)
  | exact ⟨rfl,trivial⟩
  | exact congrArg (fun b => V.c (.bool b)) (by decide +kernel)
  | (constructor <;> decide)
theorem idxE_z : ACB EN5 Tryz.prog 298 [.sl 84 [],.clo 297 [.bx (pn 0) 0]] [.box 4 [.c (.bool true)]] (.c (.int .i64 (-1))) [.box 4 [.c (.bool true)]]:=by
 refine zZ (fn:=Tryz.f298) 19 Tryz.func298 rfl rfl ?_
 intro pas w0 w he hpp
 repeat' (first
|apply zAW 7
|refine zAN ?_
|apply zE
 . conv => lhs; whnf
 . decide +kernel
|refine zA ?_
|refine zB ?_
|refine zG ?_
|apply aw_1
 conv => whnf
 refine ⟨?_,trivial⟩
|apply s_1
 conv => whnf; arg 1; arg 4; arg 3; whnf
 refine ⟨?_,?_⟩
|refine zP ?_
|refine zM rfl ?_
|refine zq ⟨?_,?_⟩
|refine ⟨_,by conv => lhs; whnf; arg 2; whnf,?_⟩; conv => rhs; whnf
|exact trivial)
 all_goals first
  | exact absurd ‹(true == true) = false› (by decide)
  | rfl
  | exact zS (by decide)
  | exact ⟨rfl,trivial⟩
  | exact congrArg (fun b => V.c (.bool b)) (by decide +kernel)
  | (constructor <;> decide)
theorem hasE_z : ACB EN5 Tryz.prog 233 [.sl 84 [],.clo 297 [.bx (pn 0) 0]] [.box 4 [.c (.bool true)]] (.c (.bool false)) [.box 4 [.c (.bool true)]]:=by
 have h:=idxE_z
 refine zZ (fn:=Tryz.f233) 9 Tryz.func233 rfl rfl ?_
 intro pas w0 w he hpp
 repeat' (first
|apply zBZ (m:=pn 0) rfl
 . conv => lhs; whnf
 . conv => lhs; whnf
 . rfl
 . conv => lhs; whnf; arg 1; whnf
 . exact fun _ => rfl
 . first | exact h
 . exact fun _ => rfl
 . exact fun _ => rfl
 . exact fun _ => rfl
|refine zA ?_
|refine zB ?_
|refine zG ?_
|apply aw_1
 conv => whnf
 refine ⟨?_,trivial⟩
|apply s_1
 conv => whnf; arg 1; arg 4; arg 3; whnf
 refine ⟨?_,?_⟩
|refine zq ⟨?_,?_⟩
|refine ⟨_,by conv => lhs; whnf; arg 2; whnf,?_⟩; conv => rhs; whnf
|exact trivial)
 all_goals first
  | exact absurd ‹(true == true) = false› (by decide)
  | rfl
  | exact zS (by decide)
  | exact ⟨rfl,trivial⟩
  | exact congrArg (fun b => V.c (.bool b)) (by decide +kernel)
  | (constructor <;> decide)
theorem node_z : AC EN5 Tryz.prog 296 [.agg (cellsV Tryz.prog 12 84 eV),.c (.bool true)] (.c (.bool true)) /\ AC EN5 Tryz.prog 296 [.agg (cellsV Tryz.prog 12 84 eI),.c (.bool true)] (.c (.bool true)):=by
 refine ⟨?_,?_⟩
 all_goals
  refine zF 137 Tryz.func296 rfl rfl rfl rfl ?_
  intro s w he
  repeat' (first
|apply zx rfl rfl rfl
 . conv => lhs; whnf
 . first | rfl | assumption | decide +kernel
 . conv => lhs; whnf
 . first | decide +kernel | rfl
|apply zo rfl rfl rfl
 . conv => lhs; whnf
 . first | rfl | assumption | decide +kernel
 . conv => lhs; whnf
 . first | decide +kernel | rfl
|apply zJ
 . conv => lhs; whnf
 . decide +kernel
|apply zE
 . conv => lhs; whnf
 . decide +kernel
|refine zA ?_
|refine zB ?_
|refine zG ?_
|apply aw_1
 conv => whnf
 refine ⟨?_,trivial⟩
|apply zY rfl rfl
 . conv => lhs; whnf
 . conv => lhs; whnf
 . first | decide +kernel
|apply zV rfl rfl
 . conv => lhs; whnf
 . conv => lhs; whnf
 . first | decide +kernel
|apply s_1
 conv => whnf; arg 1; arg 4; arg 3; whnf
 refine ⟨?_,?_⟩
|apply zAV rfl rfl rfl rfl
 . conv => lhs; whnf; arg 1; whnf
 . rfl
|apply zD rfl
 . conv => lhs; whnf
 . conv => lhs; whnf
 . first | rfl | assumption | decide +kernel
 . conv => lhs; whnf; arg 2; whnf
|apply zl rfl
 . conv => lhs; whnf
 . conv => lhs; whnf
 . first | rfl | assumption | decide +kernel
 . conv => lhs; whnf
 . first | exact zAZ _ (by decide) (by kernel_rfl)
|refine zU ?_
|refine za ?_
|refine zC ?_
|refine ⟨_,by conv => lhs; whnf; arg 2; whnf,?_⟩; conv => rhs; whnf
|exact trivial)
 all_goals first
  | exact absurd ‹(true == true) = false› (by decide)
  | rfl
  | exact zS (by decide)
  | exact ⟨rfl,trivial⟩
  | exact congrArg (fun b => V.c (.bool b)) (by decide +kernel)
  | (constructor <;> decide)
theorem every_z : AC EN5 Tryz.prog 232 [.agg (cellsV Tryz.prog 12 84 eV),.c (.bool true)] (.c (.bool true)) /\ AC EN5 Tryz.prog 232 [.agg (cellsV Tryz.prog 12 84 eI),.c (.bool true)] (.c (.bool true)):=by
 have h:=node_z
 have hc:=hasE_z
 refine ⟨?_,?_⟩
 all_goals
  refine zF 15 Tryz.func232 rfl rfl rfl rfl ?_
  intro s w he
  repeat' (first
|apply zDt (m:=3) rfl
 . conv => lhs; whnf
 . conv => lhs; whnf
 . conv => lhs; whnf
 . rfl
 . conv => lhs; whnf; arg 1; whnf
 . exact fun _ => rfl
 . first | exact hc
 . exact fun _ => rfl
 . exact fun _ => rfl
 . exact fun _ => rfl
|refine zA ?_
|refine zB ?_
|refine zG ?_
|apply aw_1
 conv => whnf
 refine ⟨?_,trivial⟩
|apply zY rfl rfl
 . conv => lhs; whnf
 . conv => lhs; whnf
 . first | decide +kernel
|apply s_1
 conv => whnf; arg 1; arg 4; arg 3; whnf
 refine ⟨?_,?_⟩
|apply ze rfl
 . conv => lhs; whnf
 . conv => lhs; whnf
 . first | exact h.1 | exact h.2
|apply zAV rfl rfl rfl rfl
 . conv => lhs; whnf; arg 1; whnf
 . rfl
|apply zd rfl
 . conv => lhs; whnf
 . conv => lhs; whnf
 . first | rfl | assumption | decide +kernel
|refine zC ?_
|refine ⟨_,by conv => lhs; whnf; arg 2; whnf,?_⟩; conv => rhs; whnf
|exact trivial
|intro hg)
 all_goals first
  | exact absurd ‹(true == true) = false› (by decide)
  | rfl
  | exact zS (by decide)
  | exact ⟨rfl,trivial⟩
  | exact congrArg (fun b => V.c (.bool b)) (by decide +kernel)
  | (constructor <;> decide)
theorem lit_z : AC EN5 Tryz.prog 155 [.agg (cellsV Tryz.prog 12 84 eV)] (.c (.bool true)) /\ AC EN5 Tryz.prog 155 [.agg (cellsV Tryz.prog 12 84 eI)] (.c (.bool true)):=by
 have h1:=size_z
 have h2:=depth_z
 have h3:=every_z
 refine ⟨?_,?_⟩
 all_goals
  refine zF 15 Tryz.func155 rfl rfl rfl rfl ?_
  intro s w he
  repeat' (first
|refine zA ?_
|refine zB ?_
|refine zG ?_
|apply aw_1
 conv => whnf
 refine ⟨?_,trivial⟩
|apply zY rfl rfl
 . conv => lhs; whnf
 . conv => lhs; whnf
 . first | decide +kernel
|apply s_1
 conv => whnf; arg 1; arg 4; arg 3; whnf
 refine ⟨?_,?_⟩
|apply ze rfl
 . conv => lhs; whnf
 . conv => lhs; whnf
 . first | exact h1.1 | exact h1.2 | exact h2.1 | exact h2.2 | exact h3.1 | exact h3.2
|apply zAV rfl rfl rfl rfl
 . conv => lhs; whnf; arg 1; whnf
 . rfl
|apply zl rfl
 . conv => lhs; whnf
 . conv => lhs; whnf
 . first | rfl | assumption | decide +kernel
 . conv => lhs; whnf
 . first | exact h1.1 | exact h1.2 | exact h2.1 | exact h2.2 | exact h3.1 | exact h3.2
|refine zC ?_
|refine ⟨_,by conv => lhs; whnf; arg 2; whnf,?_⟩; conv => rhs; whnf
|exact trivial)
 all_goals first
  | exact absurd ‹(true == true) = false› (by decide)
  | rfl
  | exact zS (by decide)
  | exact ⟨rfl,trivial⟩
  | exact congrArg (fun b => V.c (.bool b)) (by decide +kernel)
  | (constructor <;> decide)
theorem idxB_z : AC EN5 Tryz.prog 298 [.sl 84 [],.c (.func (.func 234) #[] #[])] (.c (.int .i64 (-1))):=by
 refine zF 19 Tryz.func298 rfl rfl rfl rfl ?_
 intro s w he
 repeat' (first
|apply zAW 7
|refine zAN ?_
|apply zE
 . conv => lhs; whnf
 . decide +kernel
|refine zA ?_
|refine zB ?_
|refine zG ?_
|apply aw_1
 conv => whnf
 refine ⟨?_,trivial⟩
|apply s_1
 conv => whnf; arg 1; arg 4; arg 3; whnf
 refine ⟨?_,?_⟩
|refine zP ?_
|refine zM rfl ?_
|refine zC ?_
|refine ⟨_,by conv => lhs; whnf; arg 2; whnf,?_⟩; conv => rhs; whnf
|exact trivial)
 all_goals first
  | exact absurd ‹(true == true) = false› (by decide)
  | rfl
  | exact zS (by decide)
  | exact ⟨rfl,trivial⟩
  | exact congrArg (fun b => V.c (.bool b)) (by decide +kernel)
  | (constructor <;> decide)
theorem hasB_z : AC EN5 Tryz.prog 233 [.sl 84 [],.c (.func (.func 234) #[] #[])] (.c (.bool false)):=by
 have h:=idxB_z
 refine zF 9 Tryz.func233 rfl rfl rfl rfl ?_
 intro s w he
 repeat' (first
|refine zA ?_
|refine zB ?_
|refine zG ?_
|apply aw_1
 conv => whnf
 refine ⟨?_,trivial⟩
|apply s_1
 conv => whnf; arg 1; arg 4; arg 3; whnf
 refine ⟨?_,?_⟩
|apply ze rfl
 . conv => lhs; whnf
 . conv => lhs; whnf
 . first | exact h
|refine zC ?_
|refine ⟨_,by conv => lhs; whnf; arg 2; whnf,?_⟩; conv => rhs; whnf
|exact trivial)
 all_goals first
  | exact absurd ‹(true == true) = false› (by decide)
  | rfl
  | exact zS (by decide)
  | exact ⟨rfl,trivial⟩
  | exact congrArg (fun b => V.c (.bool b)) (by decide +kernel)
  | (constructor <;> decide)
theorem bare_z : AC EN5 Tryz.prog 156 [.agg (cellsV Tryz.prog 12 84 eI)] (.c (.bool true)):=by
 have h:=hasB_z
 refine zF 12 Tryz.func156 rfl rfl rfl rfl ?_
 intro s w he
 repeat' (first
|refine zA ?_
|refine zB ?_
|refine zG ?_
|apply aw_1
 conv => whnf
 refine ⟨?_,trivial⟩
|apply zY rfl rfl
 . conv => lhs; whnf
 . conv => lhs; whnf
 . first | decide +kernel
|apply s_1
 conv => whnf; arg 1; arg 4; arg 3; whnf
 refine ⟨?_,?_⟩
|apply zAV rfl rfl rfl rfl
 . conv => lhs; whnf; arg 1; whnf
 . rfl
|apply zl rfl
 . conv => lhs; whnf
 . conv => lhs; whnf
 . first | rfl | assumption | decide +kernel
 . conv => lhs; whnf
 . first | exact h
|refine zC ?_
|refine ⟨_,by conv => lhs; whnf; arg 2; whnf,?_⟩; conv => rhs; whnf
|exact trivial)
 all_goals first
  | exact absurd ‹(true == true) = false› (by decide)
  | rfl
  | exact zS (by decide)
  | exact ⟨rfl,trivial⟩
  | exact congrArg (fun b => V.c (.bool b)) (by decide +kernel)
  | (constructor <;> decide)
theorem arg1_z : AC EN5 Tryz.prog 300 [.agg (cellsV Tryz.prog 12 86 eA)] (.c (.bool false)):=by
 have h:=lit_z.1
 refine zF 13 Tryz.func300 rfl rfl rfl rfl ?_
 intro s w he
 repeat' (first
|refine zA ?_
|refine zB ?_
|refine zG ?_
|apply aw_1
 conv => whnf
 refine ⟨?_,trivial⟩
|apply zV rfl rfl
 . conv => lhs; whnf
 . conv => lhs; whnf
 . first | decide +kernel
|apply s_1
 conv => whnf; arg 1; arg 4; arg 3; whnf
 refine ⟨?_,?_⟩
|apply ze rfl
 . conv => lhs; whnf
 . conv => lhs; whnf
 . first | exact zAZ _ (by decide) (by kernel_rfl) | exact h
|apply zAV rfl rfl rfl rfl
 . conv => lhs; whnf; arg 1; whnf
 . rfl
|apply zl rfl
 . conv => lhs; whnf
 . conv => lhs; whnf
 . first | rfl | assumption | decide +kernel
 . conv => lhs; whnf
 . first | exact zAZ _ (by decide) (by kernel_rfl) | exact h
|refine zC ?_
|refine ⟨_,by conv => lhs; whnf; arg 2; whnf,?_⟩; conv => rhs; whnf
|exact trivial)
 all_goals first
  | exact absurd ‹(true == true) = false› (by decide)
  | rfl
  | exact zS (by decide)
  | exact ⟨rfl,trivial⟩
  | exact congrArg (fun b => V.c (.bool b)) (by decide +kernel)
  | (constructor <;> decide)
theorem idxA_z : AC EN5 Tryz.prog 339 [.sl 86 [],.c (.func (.func 300) #[] #[])] (.c (.int .i64 (-1))) /\ AC EN5 Tryz.prog 339 [.sl 86 [eA],.c (.func (.func 300) #[] #[])] (.c (.int .i64 (-1))):=by
 refine ⟨?_,?_⟩
 all_goals
  refine zF 19 Tryz.func339 rfl rfl rfl rfl ?_
  intro s w he
  repeat' (first
|apply zAW 7
|refine k_rnd ?_
|refine zAN ?_
|apply zJ
 . conv => lhs; whnf
 . decide +kernel
|apply zE
 . conv => lhs; whnf
 . decide +kernel
|refine zA ?_
|refine zB ?_
|refine zG ?_
|refine zb ?_
|apply aw_1
 conv => whnf
 refine ⟨?_,trivial⟩
|apply s_1
 conv => whnf; arg 1; arg 4; arg 3; whnf
 refine ⟨?_,?_⟩
|apply ze rfl
 . conv => lhs; whnf
 . conv => lhs; whnf
 . first | exact arg1_z
|refine zP ?_
|refine zM rfl ?_
|refine zC ?_
|refine ⟨_,by conv => lhs; whnf; arg 2; whnf,?_⟩; conv => rhs; whnf
|exact trivial)
 all_goals first
  | exact absurd ‹(true == true) = false› (by decide)
  | rfl
  | exact zS (by decide)
  | exact ⟨rfl,trivial⟩
  | exact congrArg (fun b => V.c (.bool b)) (by decide +kernel)
  | (constructor <;> decide)
theorem hasA_z : AC EN5 Tryz.prog 299 [.sl 86 [],.c (.func (.func 300) #[] #[])] (.c (.bool false)) /\ AC EN5 Tryz.prog 299 [.sl 86 [eA],.c (.func (.func 300) #[] #[])] (.c (.bool false)):=by
 have h:=idxA_z
 refine ⟨?_,?_⟩
 all_goals
  refine zF 9 Tryz.func299 rfl rfl rfl rfl ?_
  intro s w he
  repeat' (first
|refine zA ?_
|refine zB ?_
|refine zG ?_
|apply aw_1
 conv => whnf
 refine ⟨?_,trivial⟩
|apply s_1
 conv => whnf; arg 1; arg 4; arg 3; whnf
 refine ⟨?_,?_⟩
|apply ze rfl
 . conv => lhs; whnf
 . conv => lhs; whnf
 . first | exact h.1 | exact h.2
|refine zC ?_
|refine ⟨_,by conv => lhs; whnf; arg 2; whnf,?_⟩; conv => rhs; whnf
|exact trivial)
 all_goals first
  | exact absurd ‹(true == true) = false› (by decide)
  | rfl
  | exact zS (by decide)
  | exact ⟨rfl,trivial⟩
  | exact congrArg (fun b => V.c (.bool b)) (by decide +kernel)
  | (constructor <;> decide)
theorem args_z : AC EN5 Tryz.prog 236 [.sl 86 []] (.c (.bool true)) /\ AC EN5 Tryz.prog 236 [.sl 86 [eA]] (.c (.bool true)):=by
 have h:=hasA_z
 refine ⟨?_,?_⟩
 all_goals
  refine zF 11 Tryz.func236 rfl rfl rfl rfl ?_
  intro s w he
  repeat' (first
|refine zA ?_
|refine zB ?_
|refine zG ?_
|apply aw_1
 conv => whnf
 refine ⟨?_,trivial⟩
|apply zY rfl rfl
 . conv => lhs; whnf
 . conv => lhs; whnf
 . first | decide +kernel
|apply s_1
 conv => whnf; arg 1; arg 4; arg 3; whnf
 refine ⟨?_,?_⟩
|apply zl rfl
 . conv => lhs; whnf
 . conv => lhs; whnf
 . first | rfl | assumption | decide +kernel
 . conv => lhs; whnf
 . first | exact h.1 | exact h.2
|refine zC ?_
|refine ⟨_,by conv => lhs; whnf; arg 2; whnf,?_⟩; conv => rhs; whnf
|exact trivial)
 all_goals first
  | exact absurd ‹(true == true) = false› (by decide)
  | rfl
  | exact zS (by decide)
  | exact ⟨rfl,trivial⟩
  | exact congrArg (fun b => V.c (.bool b)) (by decide +kernel)
  | (constructor <;> decide)
theorem idxD_z : AC EN5 Tryz.prog 340 [.sl 150 [],.c (.func (.func 302) #[] #[])] (.c (.int .i64 (-1))):=by
 refine zF 19 Tryz.func340 rfl rfl rfl rfl ?_
 intro s w he
 repeat' (first
|apply zAW 7
|refine zAN ?_
|apply zE
 . conv => lhs; whnf
 . decide +kernel
|refine zA ?_
|refine zB ?_
|refine zG ?_
|apply aw_1
 conv => whnf
 refine ⟨?_,trivial⟩
|apply s_1
 conv => whnf; arg 1; arg 4; arg 3; whnf
 refine ⟨?_,?_⟩
|refine zP ?_
|refine zM rfl ?_
|refine zC ?_
|refine ⟨_,by conv => lhs; whnf; arg 2; whnf,?_⟩; conv => rhs; whnf
|exact trivial)
 all_goals first
  | exact absurd ‹(true == true) = false› (by decide)
  | rfl
  | exact zS (by decide)
  | exact ⟨rfl,trivial⟩
  | exact congrArg (fun b => V.c (.bool b)) (by decide +kernel)
  | (constructor <;> decide)
theorem hasD_z : AC EN5 Tryz.prog 301 [.sl 150 [],.c (.func (.func 302) #[] #[])] (.c (.bool false)):=by
 have h:=idxD_z
 refine zF 9 Tryz.func301 rfl rfl rfl rfl ?_
 intro s w he
 repeat' (first
|refine zA ?_
|refine zB ?_
|refine zG ?_
|apply aw_1
 conv => whnf
 refine ⟨?_,trivial⟩
|apply s_1
 conv => whnf; arg 1; arg 4; arg 3; whnf
 refine ⟨?_,?_⟩
|apply ze rfl
 . conv => lhs; whnf
 . conv => lhs; whnf
 . first | exact h
|refine zC ?_
|refine ⟨_,by conv => lhs; whnf; arg 2; whnf,?_⟩; conv => rhs; whnf
|exact trivial)
 all_goals first
  | exact absurd ‹(true == true) = false› (by decide)
  | rfl
  | exact zS (by decide)
  | exact ⟨rfl,trivial⟩
  | exact congrArg (fun b => V.c (.bool b)) (by decide +kernel)
  | (constructor <;> decide)
theorem dirs_z : AC EN5 Tryz.prog 237 [.sl 150 []] (.c (.bool true)):=by
 have h:=hasD_z
 refine zF 11 Tryz.func237 rfl rfl rfl rfl ?_
 intro s w he
 repeat' (first
|refine zA ?_
|refine zB ?_
|refine zG ?_
|apply aw_1
 conv => whnf
 refine ⟨?_,trivial⟩
|apply zY rfl rfl
 . conv => lhs; whnf
 . conv => lhs; whnf
 . first | decide +kernel
|apply s_1
 conv => whnf; arg 1; arg 4; arg 3; whnf
 refine ⟨?_,?_⟩
|apply zl rfl
 . conv => lhs; whnf
 . conv => lhs; whnf
 . first | rfl | assumption | decide +kernel
 . conv => lhs; whnf
 . first | exact h
|refine zC ?_
|refine ⟨_,by conv => lhs; whnf; arg 2; whnf,?_⟩; conv => rhs; whnf
|exact trivial)
 all_goals first
  | exact absurd ‹(true == true) = false› (by decide)
  | rfl
  | exact zS (by decide)
  | exact ⟨rfl,trivial⟩
  | exact congrArg (fun b => V.c (.bool b)) (by decide +kernel)
  | (constructor <;> decide)
theorem zHk : AC EN5 Tryz.prog 83 [.c (.string ⟨#[102]⟩)] (.c (.bool true)):=by
 refine zF 9 Tryz.func83 rfl rfl rfl rfl ?_
 intro s w he
 repeat' (first
|refine zA ?_
|refine zB ?_
|refine zG ?_
|apply aw_1
 conv => whnf
 refine ⟨?_,trivial⟩
|apply zY rfl rfl
 . conv => lhs; whnf
 . conv => lhs; whnf
 . first | decide +kernel
|apply s_1
 conv => whnf; arg 1; arg 4; arg 3; whnf
 refine ⟨?_,?_⟩
|apply ze rfl
 . conv => lhs; whnf
 . conv => lhs; whnf
 . first | exact zAZ _ (by decide) (by kernel_rfl)
|refine zC ?_
|refine ⟨_,by conv => lhs; whnf; arg 2; whnf,?_⟩; conv => rhs; whnf
|exact trivial)
 all_goals first
  | exact absurd ‹(true == true) = false› (by decide)
  | rfl
  | exact zS (by decide)
  | exact ⟨rfl,trivial⟩
  | exact congrArg (fun b => V.c (.bool b)) (by decide +kernel)
  | (constructor <;> decide)
theorem idxS0_z : ACB EN5 Tryz.prog 235 [.sl 76 [],.clo 158 [.bx (pn 0) 0]] [.box 3 [.c (.int .i64 2)]] (.c (.int .i64 (-1))) [.box 3 [.c (.int .i64 2)]] /\ ACB EN5 Tryz.prog 235 [.sl 76 [],.clo 158 [.bx (pn 0) 0]] [.box 3 [.c (.int .i64 3)]] (.c (.int .i64 (-1))) [.box 3 [.c (.int .i64 3)]]:=by
 refine ⟨?_,?_⟩
 all_goals
  refine zZ (fn:=Tryz.f235) 19 Tryz.func235 rfl rfl ?_
  intro pas w0 w he hpp
  repeat' (first
|apply zAW 7
|refine zAN ?_
|apply zE
 . conv => lhs; whnf
 . decide +kernel
|refine zA ?_
|refine zB ?_
|refine zG ?_
|apply aw_1
 conv => whnf
 refine ⟨?_,trivial⟩
|apply s_1
 conv => whnf; arg 1; arg 4; arg 3; whnf
 refine ⟨?_,?_⟩
|refine zP ?_
|refine zM rfl ?_
|refine zq ⟨?_,?_⟩
|refine ⟨_,by conv => lhs; whnf; arg 2; whnf,?_⟩; conv => rhs; whnf
|exact trivial)
 all_goals first
  | exact absurd ‹(true == true) = false› (by decide)
  | rfl
  | exact zS (by decide)
  | exact ⟨rfl,trivial⟩
  | exact congrArg (fun b => V.c (.bool b)) (by decide +kernel)
  | (constructor <;> decide)
theorem hasS0_z : ACB EN5 Tryz.prog 157 [.sl 76 [],.clo 158 [.bx (pn 0) 0]] [.box 3 [.c (.int .i64 2)]] (.c (.bool false)) [.box 3 [.c (.int .i64 2)]] /\ ACB EN5 Tryz.prog 157 [.sl 76 [],.clo 158 [.bx (pn 0) 0]] [.box 3 [.c (.int .i64 3)]] (.c (.bool false)) [.box 3 [.c (.int .i64 3)]]:=by
 have h:=idxS0_z
 refine ⟨?_,?_⟩
 all_goals
  refine zZ (fn:=Tryz.f157) 9 Tryz.func157 rfl rfl ?_
  intro pas w0 w he hpp
  repeat' (first
|apply zBZ (m:=pn 0) rfl
 . conv => lhs; whnf
 . conv => lhs; whnf
 . rfl
 . conv => lhs; whnf; arg 1; whnf
 . exact fun _ => rfl
 . first | exact h.1
 . exact fun _ => rfl
 . exact fun _ => rfl
 . exact fun _ => rfl
|apply zBZ (m:=pn 0) rfl
 . conv => lhs; whnf
 . conv => lhs; whnf
 . rfl
 . conv => lhs; whnf; arg 1; whnf
 . exact fun _ => rfl
 . first | exact h.2
 . exact fun _ => rfl
 . exact fun _ => rfl
 . exact fun _ => rfl
|refine zA ?_
|refine zB ?_
|refine zG ?_
|apply aw_1
 conv => whnf
 refine ⟨?_,trivial⟩
|apply s_1
 conv => whnf; arg 1; arg 4; arg 3; whnf
 refine ⟨?_,?_⟩
|refine zq ⟨?_,?_⟩
|refine ⟨_,by conv => lhs; whnf; arg 2; whnf,?_⟩; conv => rhs; whnf
|exact trivial)
 all_goals first
  | exact absurd ‹(true == true) = false› (by decide)
  | rfl
  | exact zS (by decide)
  | exact ⟨rfl,trivial⟩
  | exact congrArg (fun b => V.c (.bool b)) (by decide +kernel)
  | (constructor <;> decide)
theorem sels0_z : AC EN5 Tryz.prog 80 [.sl 76 [],.c (.int .i64 0),.c (.int .i64 2)] (.c (.bool true)) /\ AC EN5 Tryz.prog 80 [.sl 76 [],.c (.int .i64 0),.c (.int .i64 3)] (.c (.bool true)):=by
 have h:=hasS0_z
 refine ⟨?_,?_⟩
 all_goals
  refine zF 29 Tryz.func80 rfl rfl rfl rfl ?_
  intro s w he
  repeat' (first
|apply zo rfl rfl rfl
 . conv => lhs; whnf
 . first | rfl | assumption | decide +kernel
 . conv => lhs; whnf
 . first | decide +kernel | rfl
|apply zBZ (m:=5) rfl
 . conv => lhs; whnf
 . conv => lhs; whnf
 . rfl
 . conv => lhs; whnf; arg 1; whnf
 . exact fun _ => rfl
 . first | exact h.1
 . exact fun _ => rfl
 . exact fun _ => rfl
 . exact fun _ => rfl
|apply zBZ (m:=5) rfl
 . conv => lhs; whnf
 . conv => lhs; whnf
 . rfl
 . conv => lhs; whnf; arg 1; whnf
 . exact fun _ => rfl
 . first | exact h.2
 . exact fun _ => rfl
 . exact fun _ => rfl
 . exact fun _ => rfl
|apply zE
 . conv => lhs; whnf
 . decide +kernel
|refine zA ?_
|refine zB ?_
|refine zG ?_
|apply aw_1
 conv => whnf
 refine ⟨?_,trivial⟩
|apply zV rfl rfl
 . conv => lhs; whnf
 . conv => lhs; whnf
 . first | decide +kernel
|apply s_1
 conv => whnf; arg 1; arg 4; arg 3; whnf
 refine ⟨?_,?_⟩
|apply zAV rfl rfl rfl rfl
 . conv => lhs; whnf; arg 1; whnf
 . rfl
|refine zC ?_
|refine ⟨_,by conv => lhs; whnf; arg 2; whnf,?_⟩; conv => rhs; whnf
|exact trivial)
 all_goals first
  | exact absurd ‹(true == true) = false› (by decide)
  | rfl
  | exact zS (by decide)
  | exact ⟨rfl,trivial⟩
  | exact congrArg (fun b => V.c (.bool b)) (by decide +kernel)
  | (constructor <;> decide)
theorem sel1c_z : AC EN5 Tryz.prog 159 [.agg (cellsV Tryz.prog 12 76 e1),.c (.int .i64 1)] (.c (.bool true)) /\ AC EN5 Tryz.prog 159 [.agg (cellsV Tryz.prog 12 76 e2),.c (.int .i64 2)] (.c (.bool true)) /\ AC EN5 Tryz.prog 159 [.agg (cellsV Tryz.prog 12 76 e3),.c (.int .i64 2)] (.c (.bool true)):=by
 have ha:=args_z
 have hd:=dirs_z
 have ht:=zHk
 have hs:=sels0_z
 refine ⟨?_,?_,?_⟩
 all_goals
  refine zF 104 Tryz.func159 rfl rfl rfl rfl ?_
  intro s w he
  repeat' (first
|apply zx rfl rfl rfl
 . conv => lhs; whnf
 . first | rfl | assumption | decide +kernel
 . conv => lhs; whnf
 . first | decide +kernel | rfl
|apply zJ
 . conv => lhs; whnf
 . decide +kernel
|apply zE
 . conv => lhs; whnf
 . decide +kernel
|refine zA ?_
|refine zB ?_
|refine zG ?_
|apply aw_1
 conv => whnf
 refine ⟨?_,trivial⟩
|apply zY rfl rfl
 . conv => lhs; whnf
 . conv => lhs; whnf
 . first | decide +kernel
|apply zV rfl rfl
 . conv => lhs; whnf
 . conv => lhs; whnf
 . first | decide +kernel
|apply s_1
 conv => whnf; arg 1; arg 4; arg 3; whnf
 refine ⟨?_,?_⟩
|apply ze rfl
 . conv => lhs; whnf
 . conv => lhs; whnf
 . first | exact zAZ _ (by decide) (by kernel_rfl) | exact ha.1 | exact ha.2 | exact hd | exact ht | exact hs.1 | exact hs.2
|apply zAV rfl rfl rfl rfl
 . conv => lhs; whnf; arg 1; whnf
 . rfl
|apply zD rfl
 . conv => lhs; whnf
 . conv => lhs; whnf
 . first | rfl | assumption | decide +kernel
 . conv => lhs; whnf; arg 2; whnf
|apply zl rfl
 . conv => lhs; whnf
 . conv => lhs; whnf
 . first | rfl | assumption | decide +kernel
 . conv => lhs; whnf
 . first | exact zAZ _ (by decide) (by kernel_rfl) | exact ha.1 | exact ha.2 | exact hd | exact ht | exact hs.1 | exact hs.2
|apply zd rfl
 . conv => lhs; whnf
 . conv => lhs; whnf
 . first | rfl | assumption | decide +kernel
|refine zU ?_
|refine za ?_
|refine zC ?_
|refine ⟨_,by conv => lhs; whnf; arg 2; whnf,?_⟩; conv => rhs; whnf
|exact trivial)
 all_goals first
  | exact absurd ‹(true == true) = false› (by decide)
  | rfl
  | exact zS (by decide)
  | exact ⟨rfl,trivial⟩
  | exact congrArg (fun b => V.c (.bool b)) (by decide +kernel)
  | (constructor <;> decide)
theorem sel1_z : ACB EN5 Tryz.prog 158 [.agg (cellsV Tryz.prog 12 76 e1),.bx (pn 0) 0] [.box 3 [.c (.int .i64 1)]] (.c (.bool false)) [.box 3 [.c (.int .i64 1)]] /\ ACB EN5 Tryz.prog 158 [.agg (cellsV Tryz.prog 12 76 e2),.bx (pn 0) 0] [.box 3 [.c (.int .i64 2)]] (.c (.bool false)) [.box 3 [.c (.int .i64 2)]] /\ ACB EN5 Tryz.prog 158 [.agg (cellsV Tryz.prog 12 76 e3),.bx (pn 0) 0] [.box 3 [.c (.int .i64 2)]] (.c (.bool false)) [.box 3 [.c (.int .i64 2)]]:=by
 have h:=sel1c_z
 refine ⟨?_,?_,?_⟩
 all_goals
  refine zZ (fn:=Tryz.f158) 8 Tryz.func158 rfl rfl ?_
  intro pas w0 w he hpp
  repeat' (first
|refine zA ?_
|refine zB ?_
|refine zG ?_
|apply aw_1
 conv => whnf
 refine ⟨?_,trivial⟩
|apply s_1
 conv => whnf; arg 1; arg 4; arg 3; whnf
 refine ⟨?_,?_⟩
|apply ze rfl
 . conv => lhs; whnf
 . conv => lhs; whnf
 . first | exact h.1 | exact h.2.1 | exact h.2.2
|apply zAV rfl rfl rfl rfl
 . conv => lhs; whnf; arg 1; whnf
 . rfl
|refine zq ⟨?_,?_⟩
|refine ⟨_,by conv => lhs; whnf; arg 2; whnf,?_⟩; conv => rhs; whnf
|exact trivial)
 all_goals first
  | exact absurd ‹(true == true) = false› (by decide)
  | rfl
  | exact zS (by decide)
  | exact ⟨rfl,trivial⟩
  | exact congrArg (fun b => V.c (.bool b)) (by decide +kernel)
  | (constructor <;> decide)
theorem idxS1_z : ACB EN5 Tryz.prog 235 [.sl 76 [e1],.clo 158 [.bx (pn 0) 0]] [.box 3 [.c (.int .i64 1)]] (.c (.int .i64 (-1))) [.box 3 [.c (.int .i64 1)]] /\ ACB EN5 Tryz.prog 235 [.sl 76 [e2,e3],.clo 158 [.bx (pn 0) 0]] [.box 3 [.c (.int .i64 2)]] (.c (.int .i64 (-1))) [.box 3 [.c (.int .i64 2)]]:=by
 refine ⟨?_,?_⟩
 all_goals
  refine zZ (fn:=Tryz.f235) 19 Tryz.func235 rfl rfl ?_
  intro pas w0 w he hpp
  repeat' (first
|apply zBZ (m:=pn 0) rfl
 . conv => lhs; whnf
 . conv => lhs; whnf
 . rfl
 . conv => lhs; whnf; arg 1; whnf
 . exact fun _ => rfl
 . first | exact sel1_z.2.1
 . exact fun _ => rfl
 . exact fun _ => rfl
 . exact fun _ => rfl
|apply zBZ (m:=pn 0) rfl
 . conv => lhs; whnf
 . conv => lhs; whnf
 . rfl
 . conv => lhs; whnf; arg 1; whnf
 . exact fun _ => rfl
 . first | exact sel1_z.2.2
 . exact fun _ => rfl
 . exact fun _ => rfl
 . exact fun _ => rfl
|apply zBZ (m:=pn 0) rfl
 . conv => lhs; whnf
 . conv => lhs; whnf
 . rfl
 . conv => lhs; whnf; arg 1; whnf
 . exact fun _ => rfl
 . first | exact sel1_z.1
 . exact fun _ => rfl
 . exact fun _ => rfl
 . exact fun _ => rfl
|apply zAW 7
|refine k_rnd ?_
|refine zAN ?_
|apply zJ
 . conv => lhs; whnf
 . decide +kernel
|apply zE
 . conv => lhs; whnf
 . decide +kernel
|refine zA ?_
|refine zB ?_
|refine zG ?_
|refine zb ?_
|apply aw_1
 conv => whnf
 refine ⟨?_,trivial⟩
|apply s_1
 conv => whnf; arg 1; arg 4; arg 3; whnf
 refine ⟨?_,?_⟩
|refine zP ?_
|refine zM rfl ?_
|refine zq ⟨?_,?_⟩
|refine ⟨_,by conv => lhs; whnf; arg 2; whnf,?_⟩; conv => rhs; whnf
|exact trivial)
 all_goals first
  | exact absurd ‹(true == true) = false› (by decide)
  | rfl
  | exact zS (by decide)
  | exact ⟨rfl,trivial⟩
  | exact congrArg (fun b => V.c (.bool b)) (by decide +kernel)
  | (constructor <;> decide)
theorem hasS1_z : ACB EN5 Tryz.prog 157 [.sl 76 [e1],.clo 158 [.bx (pn 0) 0]] [.box 3 [.c (.int .i64 1)]] (.c (.bool false)) [.box 3 [.c (.int .i64 1)]] /\ ACB EN5 Tryz.prog 157 [.sl 76 [e2,e3],.clo 158 [.bx (pn 0) 0]] [.box 3 [.c (.int .i64 2)]] (.c (.bool false)) [.box 3 [.c (.int .i64 2)]]:=by
 have h:=idxS1_z
 refine ⟨?_,?_⟩
 all_goals
  refine zZ (fn:=Tryz.f157) 9 Tryz.func157 rfl rfl ?_
  intro pas w0 w he hpp
  repeat' (first
|apply zBZ (m:=pn 0) rfl
 . conv => lhs; whnf
 . conv => lhs; whnf
 . rfl
 . conv => lhs; whnf; arg 1; whnf
 . exact fun _ => rfl
 . first | exact h.1
 . exact fun _ => rfl
 . exact fun _ => rfl
 . exact fun _ => rfl
|apply zBZ (m:=pn 0) rfl
 . conv => lhs; whnf
 . conv => lhs; whnf
 . rfl
 . conv => lhs; whnf; arg 1; whnf
 . exact fun _ => rfl
 . first | exact h.2
 . exact fun _ => rfl
 . exact fun _ => rfl
 . exact fun _ => rfl
|refine zA ?_
|refine zB ?_
|refine zG ?_
|apply aw_1
 conv => whnf
 refine ⟨?_,trivial⟩
|apply s_1
 conv => whnf; arg 1; arg 4; arg 3; whnf
 refine ⟨?_,?_⟩
|refine zq ⟨?_,?_⟩
|refine ⟨_,by conv => lhs; whnf; arg 2; whnf,?_⟩; conv => rhs; whnf
|exact trivial)
 all_goals first
  | exact absurd ‹(true == true) = false› (by decide)
  | rfl
  | exact zS (by decide)
  | exact ⟨rfl,trivial⟩
  | exact congrArg (fun b => V.c (.bool b)) (by decide +kernel)
  | (constructor <;> decide)
theorem sels1_z : AC EN5 Tryz.prog 80 [.sl 76 [e1],.c (.int .i64 1),.c (.int .i64 1)] (.c (.bool true)) /\ AC EN5 Tryz.prog 80 [.sl 76 [e2,e3],.c (.int .i64 0),.c (.int .i64 2)] (.c (.bool true)):=by
 have h:=hasS1_z
 refine ⟨?_,?_⟩
 all_goals
  refine zF 29 Tryz.func80 rfl rfl rfl rfl ?_
  intro s w he
  repeat' (first
|apply zx rfl rfl rfl
 . conv => lhs; whnf
 . first | rfl | assumption | decide +kernel
 . conv => lhs; whnf
 . first | decide +kernel | rfl
|apply zBZ (m:=5) rfl
 . conv => lhs; whnf
 . conv => lhs; whnf
 . rfl
 . conv => lhs; whnf; arg 1; whnf
 . exact fun _ => rfl
 . first | exact h.1
 . exact fun _ => rfl
 . exact fun _ => rfl
 . exact fun _ => rfl
|apply zBZ (m:=5) rfl
 . conv => lhs; whnf
 . conv => lhs; whnf
 . rfl
 . conv => lhs; whnf; arg 1; whnf
 . exact fun _ => rfl
 . first | exact h.2
 . exact fun _ => rfl
 . exact fun _ => rfl
 . exact fun _ => rfl
|apply zE
 . conv => lhs; whnf
 . decide +kernel
|refine zA ?_
|refine zB ?_
|refine zG ?_
|apply aw_1
 conv => whnf
 refine ⟨?_,trivial⟩
|apply zV rfl rfl
 . conv => lhs; whnf
 . conv => lhs; whnf
 . first | decide +kernel
|apply s_1
 conv => whnf; arg 1; arg 4; arg 3; whnf
 refine ⟨?_,?_⟩
|apply zAV rfl rfl rfl rfl
 . conv => lhs; whnf; arg 1; whnf
 . rfl
|refine zC ?_
|refine ⟨_,by conv => lhs; whnf; arg 2; whnf,?_⟩; conv => rhs; whnf
|exact trivial)
 all_goals first
  | exact absurd ‹(true == true) = false› (by decide)
  | rfl
  | exact zS (by decide)
  | exact ⟨rfl,trivial⟩
  | exact congrArg (fun b => V.c (.bool b)) (by decide +kernel)
  | (constructor <;> decide)
theorem sel2c_z : AC EN5 Tryz.prog 159 [.agg (cellsV Tryz.prog 12 76 e4),.c (.int .i64 1)] (.c (.bool true)):=by
 have ha:=args_z
 have hd:=dirs_z
 have ht:=zHk
 have hs:=sels1_z.2
 refine zF 104 Tryz.func159 rfl rfl rfl rfl ?_
 intro s w he
 repeat' (first
|apply zo rfl rfl rfl
 . conv => lhs; whnf
 . first | rfl | assumption | decide +kernel
 . conv => lhs; whnf
 . first | decide +kernel | rfl
|apply zJ
 . conv => lhs; whnf
 . decide +kernel
|apply zE
 . conv => lhs; whnf
 . decide +kernel
|refine zA ?_
|refine zB ?_
|refine zG ?_
|apply aw_1
 conv => whnf
 refine ⟨?_,trivial⟩
|apply zY rfl rfl
 . conv => lhs; whnf
 . conv => lhs; whnf
 . first | decide +kernel
|apply zV rfl rfl
 . conv => lhs; whnf
 . conv => lhs; whnf
 . first | decide +kernel
|apply s_1
 conv => whnf; arg 1; arg 4; arg 3; whnf
 refine ⟨?_,?_⟩
|apply ze rfl
 . conv => lhs; whnf
 . conv => lhs; whnf
 . first | exact zAZ _ (by decide) (by kernel_rfl) | exact ha.1 | exact ha.2 | exact hd | exact ht | exact hs
|apply zAV rfl rfl rfl rfl
 . conv => lhs; whnf; arg 1; whnf
 . rfl
|apply zD rfl
 . conv => lhs; whnf
 . conv => lhs; whnf
 . first | rfl | assumption | decide +kernel
 . conv => lhs; whnf; arg 2; whnf
|apply zl rfl
 . conv => lhs; whnf
 . conv => lhs; whnf
 . first | rfl | assumption | decide +kernel
 . conv => lhs; whnf
 . first | exact zAZ _ (by decide) (by kernel_rfl) | exact ha.1 | exact ha.2 | exact hd | exact ht | exact hs
|refine zU ?_
|refine za ?_
|refine zC ?_
|refine ⟨_,by conv => lhs; whnf; arg 2; whnf,?_⟩; conv => rhs; whnf
|exact trivial)
 all_goals first
  | exact absurd ‹(true == true) = false› (by decide)
  | rfl
  | exact zS (by decide)
  | exact ⟨rfl,trivial⟩
  | exact congrArg (fun b => V.c (.bool b)) (by decide +kernel)
  | (constructor <;> decide)
theorem sel2_z : ACB EN5 Tryz.prog 158 [.agg (cellsV Tryz.prog 12 76 e4),.bx (pn 0) 0] [.box 3 [.c (.int .i64 1)]] (.c (.bool false)) [.box 3 [.c (.int .i64 1)]]:=by
 have h:=sel2c_z
 refine zZ (fn:=Tryz.f158) 8 Tryz.func158 rfl rfl ?_
 intro pas w0 w he hpp
 repeat' (first
|refine zA ?_
|refine zB ?_
|refine zG ?_
|apply aw_1
 conv => whnf
 refine ⟨?_,trivial⟩
|apply s_1
 conv => whnf; arg 1; arg 4; arg 3; whnf
 refine ⟨?_,?_⟩
|apply ze rfl
 . conv => lhs; whnf
 . conv => lhs; whnf
 . first | exact h
|apply zAV rfl rfl rfl rfl
 . conv => lhs; whnf; arg 1; whnf
 . rfl
|refine zq ⟨?_,?_⟩
|refine ⟨_,by conv => lhs; whnf; arg 2; whnf,?_⟩; conv => rhs; whnf
|exact trivial)
 all_goals first
  | exact absurd ‹(true == true) = false› (by decide)
  | rfl
  | exact zS (by decide)
  | exact ⟨rfl,trivial⟩
  | exact congrArg (fun b => V.c (.bool b)) (by decide +kernel)
  | (constructor <;> decide)
theorem idxS2_z : ACB EN5 Tryz.prog 235 [.sl 76 [e4],.clo 158 [.bx (pn 0) 0]] [.box 3 [.c (.int .i64 1)]] (.c (.int .i64 (-1))) [.box 3 [.c (.int .i64 1)]]:=by
 refine zZ (fn:=Tryz.f235) 19 Tryz.func235 rfl rfl ?_
 intro pas w0 w he hpp
 repeat' (first
|apply zBZ (m:=pn 0) rfl
 . conv => lhs; whnf
 . conv => lhs; whnf
 . rfl
 . conv => lhs; whnf; arg 1; whnf
 . exact fun _ => rfl
 . first | exact sel2_z
 . exact fun _ => rfl
 . exact fun _ => rfl
 . exact fun _ => rfl
|apply zAW 7
|refine k_rnd ?_
|refine zAN ?_
|apply zJ
 . conv => lhs; whnf
 . decide +kernel
|apply zE
 . conv => lhs; whnf
 . decide +kernel
|refine zA ?_
|refine zB ?_
|refine zG ?_
|refine zb ?_
|apply aw_1
 conv => whnf
 refine ⟨?_,trivial⟩
|apply s_1
 conv => whnf; arg 1; arg 4; arg 3; whnf
 refine ⟨?_,?_⟩
|refine zP ?_
|refine zM rfl ?_
|refine zq ⟨?_,?_⟩
|refine ⟨_,by conv => lhs; whnf; arg 2; whnf,?_⟩; conv => rhs; whnf
|exact trivial)
 all_goals first
  | exact absurd ‹(true == true) = false› (by decide)
  | rfl
  | exact zS (by decide)
  | exact ⟨rfl,trivial⟩
  | exact congrArg (fun b => V.c (.bool b)) (by decide +kernel)
  | (constructor <;> decide)
theorem hasS2_z : ACB EN5 Tryz.prog 157 [.sl 76 [e4],.clo 158 [.bx (pn 0) 0]] [.box 3 [.c (.int .i64 1)]] (.c (.bool false)) [.box 3 [.c (.int .i64 1)]]:=by
 have h:=idxS2_z
 refine zZ (fn:=Tryz.f157) 9 Tryz.func157 rfl rfl ?_
 intro pas w0 w he hpp
 repeat' (first
|apply zBZ (m:=pn 0) rfl
 . conv => lhs; whnf
 . conv => lhs; whnf
 . rfl
 . conv => lhs; whnf; arg 1; whnf
 . exact fun _ => rfl
 . first | exact h
 . exact fun _ => rfl
 . exact fun _ => rfl
 . exact fun _ => rfl
|refine zA ?_
|refine zB ?_
|refine zG ?_
|apply aw_1
 conv => whnf
 refine ⟨?_,trivial⟩
|apply s_1
 conv => whnf; arg 1; arg 4; arg 3; whnf
 refine ⟨?_,?_⟩
|refine zq ⟨?_,?_⟩
|refine ⟨_,by conv => lhs; whnf; arg 2; whnf,?_⟩; conv => rhs; whnf
|exact trivial)
 all_goals first
  | exact absurd ‹(true == true) = false› (by decide)
  | rfl
  | exact zS (by decide)
  | exact ⟨rfl,trivial⟩
  | exact congrArg (fun b => V.c (.bool b)) (by decide +kernel)
  | (constructor <;> decide)
theorem sels2_z : AC EN5 Tryz.prog 80 [.sl 76 [e4],.c (.int .i64 1),.c (.int .i64 1)] (.c (.bool true)):=by
 have h:=hasS2_z
 refine zF 29 Tryz.func80 rfl rfl rfl rfl ?_
 intro s w he
 repeat' (first
|apply zx rfl rfl rfl
 . conv => lhs; whnf
 . first | rfl | assumption | decide +kernel
 . conv => lhs; whnf
 . first | decide +kernel | rfl
|apply zBZ (m:=5) rfl
 . conv => lhs; whnf
 . conv => lhs; whnf
 . rfl
 . conv => lhs; whnf; arg 1; whnf
 . exact fun _ => rfl
 . first | exact h
 . exact fun _ => rfl
 . exact fun _ => rfl
 . exact fun _ => rfl
|apply zE
 . conv => lhs; whnf
 . decide +kernel
|refine zA ?_
|refine zB ?_
|refine zG ?_
|apply aw_1
 conv => whnf
 refine ⟨?_,trivial⟩
|apply zV rfl rfl
 . conv => lhs; whnf
 . conv => lhs; whnf
 . first | decide +kernel
|apply s_1
 conv => whnf; arg 1; arg 4; arg 3; whnf
 refine ⟨?_,?_⟩
|apply zAV rfl rfl rfl rfl
 . conv => lhs; whnf; arg 1; whnf
 . rfl
|refine zC ?_
|refine ⟨_,by conv => lhs; whnf; arg 2; whnf,?_⟩; conv => rhs; whnf
|exact trivial)
 all_goals first
  | exact absurd ‹(true == true) = false› (by decide)
  | rfl
  | exact zS (by decide)
  | exact ⟨rfl,trivial⟩
  | exact congrArg (fun b => V.c (.bool b)) (by decide +kernel)
  | (constructor <;> decide)
theorem ref_z : AC EN5 Tryz.prog 153 [.agg (cellsV Tryz.prog 12 71 eT)] (.c (.bool true)):=by
 refine zF 48 Tryz.func153 rfl rfl rfl rfl ?_
 intro s w he
 repeat' (first
|apply zAW 7
|refine zAN ?_
|apply zE
 . conv => lhs; whnf
 . decide +kernel
|refine zA ?_
|refine zB ?_
|refine zG ?_
|apply aw_1
 conv => whnf
 refine ⟨?_,trivial⟩
|apply zV rfl rfl
 . conv => lhs; whnf
 . conv => lhs; whnf
 . first | decide +kernel
|apply s_1
 conv => whnf; arg 1; arg 4; arg 3; whnf
 refine ⟨?_,?_⟩
|apply ze rfl
 . conv => lhs; whnf
 . conv => lhs; whnf
 . first | exact zAZ _ (by decide) (by kernel_rfl)
|apply zAV rfl rfl rfl rfl
 . conv => lhs; whnf; arg 1; whnf
 . rfl
|refine zP ?_
|refine zM rfl ?_
|refine zC ?_
|refine ⟨_,by conv => lhs; whnf; arg 2; whnf,?_⟩; conv => rhs; whnf
|exact trivial)
 all_goals first
  | exact absurd ‹(true == true) = false› (by decide)
  | rfl
  | exact zS (by decide)
  | exact ⟨rfl,trivial⟩
  | exact congrArg (fun b => V.c (.bool b)) (by decide +kernel)
  | (constructor <;> decide)
theorem var_z : AC EN5 Tryz.prog 79 [.agg (cellsV Tryz.prog 12 88 eW)] (.c (.bool true)):=by
 have h1:=ref_z
 have h2:=lit_z.2
 have h3:=bare_z
 refine zF 35 Tryz.func79 rfl rfl rfl rfl ?_
 intro s w he
 repeat' (first
|apply zE
 . conv => lhs; whnf
 . decide +kernel
|refine zA ?_
|refine zB ?_
|refine zG ?_
|apply aw_1
 conv => whnf
 refine ⟨?_,trivial⟩
|apply zY rfl rfl
 . conv => lhs; whnf
 . conv => lhs; whnf
 . first | decide +kernel
|apply zV rfl rfl
 . conv => lhs; whnf
 . conv => lhs; whnf
 . first | decide +kernel
|apply s_1
 conv => whnf; arg 1; arg 4; arg 3; whnf
 refine ⟨?_,?_⟩
|apply ze rfl
 . conv => lhs; whnf
 . conv => lhs; whnf
 . first | exact zAZ _ (by decide) (by kernel_rfl) | exact h1 | exact h2 | exact h3
|apply zAV rfl rfl rfl rfl
 . conv => lhs; whnf; arg 1; whnf
 . rfl
|apply zl rfl
 . conv => lhs; whnf
 . conv => lhs; whnf
 . first | rfl | assumption | decide +kernel
 . conv => lhs; whnf
 . first | exact zAZ _ (by decide) (by kernel_rfl) | exact h1 | exact h2 | exact h3
|refine zC ?_
|refine ⟨_,by conv => lhs; whnf; arg 2; whnf,?_⟩; conv => rhs; whnf
|exact trivial)
 all_goals first
  | exact absurd ‹(true == true) = false› (by decide)
  | rfl
  | exact zS (by decide)
  | exact ⟨rfl,trivial⟩
  | exact congrArg (fun b => V.c (.bool b)) (by decide +kernel)
  | (constructor <;> decide)
theorem right1_z : AC EN5 Tryz.prog 78 [.agg (cellsV Tryz.prog 12 88 eW)] (.c (.bool false)):=by
 have h:=var_z
 refine zF 6 Tryz.func78 rfl rfl rfl rfl ?_
 intro s w he
 repeat' (first
|refine zA ?_
|refine zB ?_
|refine zG ?_
|apply aw_1
 conv => whnf
 refine ⟨?_,trivial⟩
|apply s_1
 conv => whnf; arg 1; arg 4; arg 3; whnf
 refine ⟨?_,?_⟩
|apply ze rfl
 . conv => lhs; whnf
 . conv => lhs; whnf
 . first | exact h
|apply zAV rfl rfl rfl rfl
 . conv => lhs; whnf; arg 1; whnf
 . rfl
|refine zC ?_
|refine ⟨_,by conv => lhs; whnf; arg 2; whnf,?_⟩; conv => rhs; whnf
|exact trivial)
 all_goals first
  | exact absurd ‹(true == true) = false› (by decide)
  | rfl
  | exact zS (by decide)
  | exact ⟨rfl,trivial⟩
  | exact congrArg (fun b => V.c (.bool b)) (by decide +kernel)
  | (constructor <;> decide)
theorem right2_z : AC EN5 Tryz.prog 82 [.agg (cellsV Tryz.prog 12 116 eF)] (.c (.bool false)):=by
 have h1:=zHk
 have h2:=sels1_z.1
 refine zF 19 Tryz.func82 rfl rfl rfl rfl ?_
 intro s w he
 repeat' (first
|refine zA ?_
|refine zB ?_
|refine zG ?_
|apply aw_1
 conv => whnf
 refine ⟨?_,trivial⟩
|apply zV rfl rfl
 . conv => lhs; whnf
 . conv => lhs; whnf
 . first | decide +kernel
|apply s_1
 conv => whnf; arg 1; arg 4; arg 3; whnf
 refine ⟨?_,?_⟩
|apply ze rfl
 . conv => lhs; whnf
 . conv => lhs; whnf
 . first | exact zAZ _ (by decide) (by kernel_rfl) | exact h1 | exact h2
|apply zAV rfl rfl rfl rfl
 . conv => lhs; whnf; arg 1; whnf
 . rfl
|apply zl rfl
 . conv => lhs; whnf
 . conv => lhs; whnf
 . first | rfl | assumption | decide +kernel
 . conv => lhs; whnf
 . first | exact zAZ _ (by decide) (by kernel_rfl) | exact h1 | exact h2
|refine zC ?_
|refine ⟨_,by conv => lhs; whnf; arg 2; whnf,?_⟩; conv => rhs; whnf
|exact trivial)
 all_goals first
  | exact absurd ‹(true == true) = false› (by decide)
  | rfl
  | exact zS (by decide)
  | exact ⟨rfl,trivial⟩
  | exact congrArg (fun b => V.c (.bool b)) (by decide +kernel)
  | (constructor <;> decide)
theorem idxV_z : AC EN5 Tryz.prog 152 [.sl 88 [eW],.c (.func (.func 78) #[] #[])] (.c (.int .i64 (-1))):=by
 refine zF 19 Tryz.func152 rfl rfl rfl rfl ?_
 intro s w he
 repeat' (first
|apply zAW 7
|refine k_rnd ?_
|refine zAN ?_
|apply zJ
 . conv => lhs; whnf
 . decide +kernel
|apply zE
 . conv => lhs; whnf
 . decide +kernel
|refine zA ?_
|refine zB ?_
|refine zG ?_
|refine zb ?_
|apply aw_1
 conv => whnf
 refine ⟨?_,trivial⟩
|apply s_1
 conv => whnf; arg 1; arg 4; arg 3; whnf
 refine ⟨?_,?_⟩
|apply ze rfl
 . conv => lhs; whnf
 . conv => lhs; whnf
 . first | exact right1_z
|refine zP ?_
|refine zM rfl ?_
|refine zC ?_
|refine ⟨_,by conv => lhs; whnf; arg 2; whnf,?_⟩; conv => rhs; whnf
|exact trivial)
 all_goals first
  | exact absurd ‹(true == true) = false› (by decide)
  | rfl
  | exact zS (by decide)
  | exact ⟨rfl,trivial⟩
  | exact congrArg (fun b => V.c (.bool b)) (by decide +kernel)
  | (constructor <;> decide)
theorem hasV_z : AC EN5 Tryz.prog 77 [.sl 88 [eW],.c (.func (.func 78) #[] #[])] (.c (.bool false)):=by
 have h:=idxV_z
 refine zF 9 Tryz.func77 rfl rfl rfl rfl ?_
 intro s w he
 repeat' (first
|refine zA ?_
|refine zB ?_
|refine zG ?_
|apply aw_1
 conv => whnf
 refine ⟨?_,trivial⟩
|apply s_1
 conv => whnf; arg 1; arg 4; arg 3; whnf
 refine ⟨?_,?_⟩
|apply ze rfl
 . conv => lhs; whnf
 . conv => lhs; whnf
 . first | exact h
|refine zC ?_
|refine ⟨_,by conv => lhs; whnf; arg 2; whnf,?_⟩; conv => rhs; whnf
|exact trivial)
 all_goals first
  | exact absurd ‹(true == true) = false› (by decide)
  | rfl
  | exact zS (by decide)
  | exact ⟨rfl,trivial⟩
  | exact congrArg (fun b => V.c (.bool b)) (by decide +kernel)
  | (constructor <;> decide)
theorem idxF_z : AC EN5 Tryz.prog 113 [.sl 116 [eF],.c (.func (.func 82) #[] #[])] (.c (.int .i64 (-1))):=by
 refine zF 19 Tryz.func113 rfl rfl rfl rfl ?_
 intro s w he
 repeat' (first
|apply zAW 7
|refine k_rnd ?_
|refine zAN ?_
|apply zJ
 . conv => lhs; whnf
 . decide +kernel
|apply zE
 . conv => lhs; whnf
 . decide +kernel
|refine zA ?_
|refine zB ?_
|refine zG ?_
|refine zb ?_
|apply aw_1
 conv => whnf
 refine ⟨?_,trivial⟩
|apply s_1
 conv => whnf; arg 1; arg 4; arg 3; whnf
 refine ⟨?_,?_⟩
|apply ze rfl
 . conv => lhs; whnf
 . conv => lhs; whnf
 . first | exact right2_z
|refine zP ?_
|refine zM rfl ?_
|refine zC ?_
|refine ⟨_,by conv => lhs; whnf; arg 2; whnf,?_⟩; conv => rhs; whnf
|exact trivial)
 all_goals first
  | exact absurd ‹(true == true) = false› (by decide)
  | rfl
  | exact zS (by decide)
  | exact ⟨rfl,trivial⟩
  | exact congrArg (fun b => V.c (.bool b)) (by decide +kernel)
  | (constructor <;> decide)
theorem hasF_z : AC EN5 Tryz.prog 81 [.sl 116 [eF],.c (.func (.func 82) #[] #[])] (.c (.bool false)):=by
 have h:=idxF_z
 refine zF 9 Tryz.func81 rfl rfl rfl rfl ?_
 intro s w he
 repeat' (first
|refine zA ?_
|refine zB ?_
|refine zG ?_
|apply aw_1
 conv => whnf
 refine ⟨?_,trivial⟩
|apply s_1
 conv => whnf; arg 1; arg 4; arg 3; whnf
 refine ⟨?_,?_⟩
|apply ze rfl
 . conv => lhs; whnf
 . conv => lhs; whnf
 . first | exact h
|refine zC ?_
|refine ⟨_,by conv => lhs; whnf; arg 2; whnf,?_⟩; conv => rhs; whnf
|exact trivial)
 all_goals first
  | exact absurd ‹(true == true) = false› (by decide)
  | rfl
  | exact zS (by decide)
  | exact ⟨rfl,trivial⟩
  | exact congrArg (fun b => V.c (.bool b)) (by decide +kernel)
  | (constructor <;> decide)
theorem right_z : AC EN5 Tryz.prog 36 [.agg [.sl 57 [eO],.sl 116 [eF]]] (.c (.bool true)):=by
 have h1:=hasV_z
 have h2:=sels2_z
 have h3:=hasF_z
 refine zF 65 Tryz.func36 rfl rfl rfl rfl ?_
 intro s w he
 repeat' (first
|apply zx rfl rfl rfl
 . conv => lhs; whnf
 . first | rfl | assumption | decide +kernel
 . conv => lhs; whnf
 . first | decide +kernel | rfl
|apply zAW 7
|refine k_rnd ?_
|refine zAN ?_
|apply zJ
 . conv => lhs; whnf
 . decide +kernel
|apply zE
 . conv => lhs; whnf
 . decide +kernel
|refine zA ?_
|refine zB ?_
|refine zG ?_
|refine zb ?_
|apply aw_1
 conv => whnf
 refine ⟨?_,trivial⟩
|apply zV rfl rfl
 . conv => lhs; whnf
 . conv => lhs; whnf
 . first | decide +kernel
|apply s_1
 conv => whnf; arg 1; arg 4; arg 3; whnf
 refine ⟨?_,?_⟩
|apply ze rfl
 . conv => lhs; whnf
 . conv => lhs; whnf
 . first | exact zAZ _ (by decide) (by kernel_rfl) | exact h1 | exact h2 | exact h3
|apply zAV rfl rfl rfl rfl
 . conv => lhs; whnf; arg 1; whnf
 . rfl
|apply zI rfl rfl rfl
 . conv => lhs; whnf
 . conv => lhs; whnf; arg 1; whnf
 . conv => lhs; whnf; arg 1; whnf
 . exact ⟨by kernel_rfl,by kernel_rfl⟩
 . rfl
|apply zD rfl
 . conv => lhs; whnf
 . conv => lhs; whnf
 . first | rfl | assumption | decide +kernel
 . conv => lhs; whnf; arg 2; whnf
|apply zl rfl
 . conv => lhs; whnf
 . conv => lhs; whnf
 . first | rfl | assumption | decide +kernel
 . conv => lhs; whnf
 . first | exact zAZ _ (by decide) (by kernel_rfl) | exact h1 | exact h2 | exact h3
|refine zP ?_
|refine zM rfl ?_
|refine zC ?_
|refine ⟨_,by conv => lhs; whnf; arg 2; whnf,?_⟩; conv => rhs; whnf
|exact trivial)
 all_goals first
  | exact absurd ‹(true == true) = false› (by decide)
  | rfl
  | exact zS (by decide)
  | exact ⟨rfl,trivial⟩
  | exact congrArg (fun b => V.c (.bool b)) (by decide +kernel)
  | (constructor <;> decide)
end Go.Proofs.YthjiclhfhjdjpaaGreatDoor
namespace Go.Proofs.YthjiclhfhjdjpaaGreatDoor
open Go.RowKit
set_option linter.unusedSectionVars false
attribute [local irreducible] wpList Calls Code.wp AW AWo OpOk seqK zAI zAO loopK endK AC zp Yld Sub
attribute [local irreducible] ACB ACX ACE absLexG YldG absLexH
theorem namedZ_ac (s : ByteArray) : AC EN5 Tryz.prog 73 [.c (.string s)] (.agg (cellsV Tryz.prog 12 71 (.obj [.str s,.list []]))):=by
 refine zF 5 Tryz.func73 rfl rfl rfl rfl ?_
 intro σ w he
 repeat' (first
|apply zAL ((.agg (cellsV Tryz.prog 12 71 (.obj [.str s,.list []])))) rfl rfl
 . conv => lhs; whnf; arg 2; whnf
 . repeat' (first | exact VLe.refl _ | exact VLe.nil _ | exact VLe.lit _ _ | exact VLe.own _ _ _ | apply VLe.agg | apply VLeL.cons | exact VLeL.nil)
|refine zA ?_
|refine zB ?_
|refine zG ?_
|apply aw_1
 conv => whnf
 refine ⟨?_,trivial⟩
|apply s_1
 conv => whnf; arg 1; arg 4; arg 3; whnf
 refine ⟨?_,?_⟩
|apply zI rfl rfl rfl
 . conv => lhs; whnf
 . conv => lhs; whnf; arg 1; whnf
 . conv => lhs; whnf; arg 1; whnf
 . exact ⟨by kernel_rfl,by kernel_rfl⟩
 . rfl
|refine zC ?_
|refine ⟨_,by conv => lhs; whnf; arg 2; whnf,?_⟩; conv => rhs; whnf
|exact trivial)
 rfl
theorem ffZ_t {b : Bool} (h : b = false) (h2 : b = true) : False:=by rw [h] at h2; cases h2
theorem ofZ_dec {p : Prop} [Decidable p] (h : decide p = true) : p:=of_decide_eq_true h
def opXz : D:=gD (exQ.f 0).l 0
def vaXz : D:=gD (opXz.f 2).l 0
theorem ex_ops : (exQ.f 0).l = [eO]:=by kernel_rfl
theorem ex_frs : (exQ.f 1).l = [eF]:=by kernel_rfl
theorem zEh : AC EN5 Tryz.prog 34 [] (.c (.bool true)):=by
 have h1 : AC EN5 Tryz.prog 23 [.c (.string { data:=([113,117,101,114,121,32,113,40,36,110,58,32,73,110,116,32,61,32,49,41,32,123,32,97,58,32,117,115,101,114,40,105,100,58,32,36,110,41,32,123].append [32,110,97,109,101,32,46,46,46,102,32,125,32,125,32,102,114,97,103,109,101,110,116,32,102,32,111,110,32,85,115,101,114,32,123,32,105,100,32,125]).toArray })] (parseW (.ok exQ)):=by
  have:=zF3 exT (by decide)
  rw [ex_parse] at this
  exact this
 have h2 : AC EN5 Tryz.prog 23 [.c (.string { data:=#[123,32,125] })] (parseW (.error (2,3))):=by
  have:=zF3 [123,32,125] (by decide)
  rw [ex_bad] at this
  exact this
 have h3:=right_z
 rw [<- ex_ops,<- ex_frs] at h3
 have h4:=namedZ_ac { data:=#[73,110,116] }
 have et : vaXz.f 1 = .obj [.str { data:=#[73,110,116] },.list []]:=by kernel_rfl
 have h5:=zFJ (.obj [.str { data:=#[73,110,116] },.list []]) (by decide)
 refine zF 146 Tryz.func34 rfl rfl rfl rfl ?_
 intro s w he
 repeat' (first
|refine zA ?_
|refine zB ?_
|refine zG ?_
|apply aw_1
 conv => whnf
 refine ⟨?_,trivial⟩
|apply s_1
 conv => whnf; arg 1; arg 4; arg 3; whnf
 refine ⟨?_,?_⟩
|apply ze rfl
 . conv => lhs; whnf
 . conv => lhs; whnf
 . first | exact h1 | exact h2 | exact h3 | exact h4 | exact h5
|apply zI rfl rfl rfl
 . conv => lhs; whnf
 . conv => lhs; whnf; arg 1; whnf
 . conv => lhs; whnf; arg 1; whnf
 . exact ⟨by kernel_rfl,by kernel_rfl⟩
 . rfl
|apply zBY (by kernel_rfl) (by kernel_rfl)
|apply zDz
|apply zFd rfl rfl
 . conv => lhs; whnf
 . conv => lhs; whnf
 . first | exact bT1 ‹_› | exact bT2 ‹_›
|apply zCt rfl rfl
 . conv => lhs; whnf
 . conv => lhs; whnf
 . first | exact bF1 ‹_› | exact bF2 ‹_›
|apply zDy rfl
 . conv => lhs; whnf
 . conv => lhs; whnf; arg 2; whnf
|apply zAf rfl
 . conv => lhs; whnf
 . conv => lhs; whnf
 . first | rfl | assumption
 . conv => lhs; whnf; arg 2; whnf
|apply zBb rfl
 . conv => lhs; whnf
 . conv => lhs; whnf
 . first | rfl | assumption
 . conv => lhs; whnf
 . first | exact h1 | exact h2 | exact h3 | exact h4 | exact h5
|apply zIQ rfl
 . conv => lhs; whnf
 . conv => lhs; whnf
 . first | rfl | assumption
|apply zDD rfl
 . conv => lhs; whnf
 . conv => lhs; whnf
 . conv => lhs; whnf; arg 2; whnf
|exact zAK
|exact zA1
|exact (1000000 : Nat)
|refine zC ?_
|refine ⟨_,by conv => lhs; whnf; arg 2; whnf,?_⟩; conv => rhs; whnf
|exact trivial
|intro hg)
 all_goals first
  | exact ofZ_dec (by kernel_rfl)
  | exact (ffZ_t ‹_› (by kernel_rfl)).elim
end Go.Proofs.YthjiclhfhjdjpaaGreatDoor
namespace Go.Proofs.YthjiclhfhjdjpaaGreatDoor
open Go.RowKit
set_option linter.unusedSectionVars false
attribute [local irreducible] wpList Calls Code.wp AW AWo OpOk seqK zAI zAO loopK endK AC zp Yld Sub
attribute [local irreducible] ACB ACX ACE absLexG YldG absLexU YldU absLexH
theorem scan_huge (s : List UInt8) (hs : 65536 < s.length) : AC EN5 Tryz.prog 37 [.c (.string (bs s))] (scanW (.error (65536,4))):=by
 have hz:=zh s
 have f0 : decide (((bs s).size : Int) > 65536) = true:=decide_eq_true (by omega)
 refine zF 44 Tryz.func37 rfl rfl rfl (zDh _) ?_
 intro s0 w he
 repeat' (first
|apply zJ
 . conv => lhs; whnf
 . assumption
|refine zA ?_
|refine zB ?_
|refine zG ?_
|apply aw_1
 conv => whnf
 refine ⟨?_,trivial⟩
|apply s_1
 conv => whnf; arg 1; arg 4; arg 3; whnf
 refine ⟨?_,?_⟩
|refine zU ?_
|refine zC ?_
|exact trivial)
 . exact ⟨_,_,_,rfl,rfl,rfl,rfl⟩
 all_goals exact (show Tryz.prog.underlying _ = some TypeDesc.string by kernel_rfl)
theorem parse_huge (s : List UInt8) (hs : 65536 < s.length) : AC EN5 Tryz.prog 23 [.c (.string (bs s))] (.tup [.agg [.sl 57 [],.sl 116 []],.c (.int .i64 65536),.c (.int .i64 4)]):=
 (zHD s 65536 4 (by decide) (scan_huge s hs)).res (.tup (.cons (.agg (.cons (.nil _) (.cons (.nil _) .nil))) (.cons (.refl _) (.cons (.refl _) .nil))))
theorem law_mid (l : List UInt8) (h : 8000 < l.length) (h2 : l.length <= 65536) : AC EN5 Tryz.prog 9 [.c (.string (bs l))] (.c (.bool true)):=by
 have h1:=zEh
 have hz:=zh l
 have f0 : (decide (((bs l).size : Int) > 8000) == true) = true:=by rw [decide_eq_true (by omega)]; rfl
 have f1 : decide (((bs l).size : Int) <= 65536) = true:=decide_eq_true (by omega)
 refine zF 46 Tryz.func9 rfl rfl rfl rfl ?_
 intro s w he
 repeat' (first
|apply zJ
 . conv => lhs; whnf
 . assumption
|refine zA ?_
|refine zB ?_
|refine zG ?_
|apply aw_1
 conv => whnf
 refine ⟨?_,trivial⟩
|apply zY rfl rfl
 . conv => lhs; whnf
 . conv => lhs; whnf
 . first | exact bT1 ‹_› | exact bT2 ‹_›
|apply s_1
 conv => whnf; arg 1; arg 4; arg 3; whnf
 refine ⟨?_,?_⟩
|apply ze rfl
 . conv => lhs; whnf
 . conv => lhs; whnf
 . first | exact h1
|apply zD rfl
 . conv => lhs; whnf
 . conv => lhs; whnf
 . first | rfl | assumption
 . conv => lhs; whnf; arg 2; whnf
|refine zU ?_
|refine zC ?_
|refine ⟨_,by conv => lhs; whnf; arg 2; whnf,?_⟩; conv => rhs; whnf
|exact trivial)
 all_goals first
  | rfl
  | exact (show Tryz.prog.underlying 9 = some TypeDesc.string by kernel_rfl)
theorem law_huge (l : List UInt8) (h : 65536 < l.length) : AC EN5 Tryz.prog 9 [.c (.string (bs l))] (.c (.bool true)):=by
 have h1:=zEh
 have hz:=zh l
 have f0 : (decide (((bs l).size : Int) > 8000) == true) = true:=by rw [decide_eq_true (by omega)]; rfl
 have f1 : decide (((bs l).size : Int) <= 65536) = false:=decide_eq_false (by omega)
 have h3:=parse_huge l h
 have h4:=zHE l
 have e : parseT l = .error (65536,4):=by unfold parseT zAp; rw [if_pos h]
 rw [e] at h4
 have h6:=zJv [] [] (by simp [bulkL]) (by simp [bulkL])
 refine zF 46 Tryz.func9 rfl rfl rfl rfl ?_
 intro s w he
 repeat' (first
|apply zE
 . conv => lhs; whnf
 . assumption
|refine zA ?_
|refine zB ?_
|refine zG ?_
|apply aw_1
 conv => whnf
 refine ⟨?_,trivial⟩
|apply zY rfl rfl
 . conv => lhs; whnf
 . conv => lhs; whnf
 . first | exact bT1 ‹_› | exact bT2 ‹_›
|apply s_1
 conv => whnf; arg 1; arg 4; arg 3; whnf
 refine ⟨?_,?_⟩
|apply ze rfl
 . conv => lhs; whnf
 . conv => lhs; whnf
 . first | exact h1 | exact h3 | exact h4 | exact h6
|apply zI rfl rfl rfl
 . conv => lhs; whnf
 . conv => lhs; whnf; arg 1; whnf
 . conv => lhs; whnf; arg 1; whnf
 . exact ⟨by kernel_rfl,by kernel_rfl⟩
 . rfl
|apply zD rfl
 . conv => lhs; whnf
 . conv => lhs; whnf
 . first | rfl | assumption
 . conv => lhs; whnf; arg 2; whnf
|apply zl rfl
 . conv => lhs; whnf
 . conv => lhs; whnf
 . first | rfl | assumption
 . conv => lhs; whnf
 . first | exact h1 | exact h3 | exact h4 | exact h6
|refine zC ?_
|refine ⟨_,by conv => lhs; whnf; arg 2; whnf,?_⟩; conv => rhs; whnf
|exact trivial)
 all_goals first
  | rfl
  | exact (show Tryz.prog.underlying 9 = some TypeDesc.string by kernel_rfl)
theorem law_small (l : List UInt8) (h : l.length <= 8000) : AC EN5 Tryz.prog 9 [.c (.string (bs l))] (.c (.bool true)):=by
 have h1:=zEh
 have hz:=zh l
 have f0 : (decide (((bs l).size : Int) > 8000) == true) = false:=by rw [decide_eq_false (by omega)]; rfl
 have h3:=parseO_ac l (by omega)
 have h4:=zHE l
 have hb:=bulkO l (by omega)
 have h6:=zJv _ _ hb.1 hb.2
 have g1 : ((errO (parseT l) == errO (parseT l)) == true) = true:=by simp
 have g2 : (((atO (parseT l) : Int) == (atO (parseT l) : Int)) == true) = true:=by simp
 refine zF 46 Tryz.func9 rfl rfl rfl rfl ?_
 intro s w he
 repeat' (first
|refine zA ?_
|refine zB ?_
|refine zG ?_
|apply aw_1
 conv => whnf
 refine ⟨?_,trivial⟩
|apply zY rfl rfl
 . conv => lhs; whnf
 . conv => lhs; whnf
 . first | exact bT1 ‹_› | exact bT2 ‹_›
|apply zV rfl rfl
 . conv => lhs; whnf
 . conv => lhs; whnf
 . first | exact bF1 ‹_› | exact bF2 ‹_›
|apply s_1
 conv => whnf; arg 1; arg 4; arg 3; whnf
 refine ⟨?_,?_⟩
|apply ze rfl
 . conv => lhs; whnf
 . conv => lhs; whnf
 . first | exact h1 | exact h3 | exact h4 | exact h6
|apply zI rfl rfl rfl
 . conv => lhs; whnf
 . conv => lhs; whnf; arg 1; whnf
 . conv => lhs; whnf; arg 1; whnf
 . exact ⟨by kernel_rfl,by kernel_rfl⟩
 . rfl
|apply zD rfl
 . conv => lhs; whnf
 . conv => lhs; whnf
 . first | rfl | assumption
 . conv => lhs; whnf; arg 2; whnf
|apply zl rfl
 . conv => lhs; whnf
 . conv => lhs; whnf
 . first | rfl | assumption
 . conv => lhs; whnf
 . first | exact h1 | exact h3 | exact h4 | exact h6
|apply zd rfl
 . conv => lhs; whnf
 . conv => lhs; whnf
 . first | rfl | assumption
|refine zC ?_
|refine ⟨_,by conv => lhs; whnf; arg 2; whnf,?_⟩; conv => rhs; whnf
|exact trivial)
 all_goals first
  | rfl
  | exact (show Tryz.prog.underlying 9 = some TypeDesc.string by kernel_rfl)
theorem law_ac (l : List UInt8) : AC EN5 Tryz.prog 9 [.c (.string (bs l))] (.c (.bool true)):=by
 rcases Nat.lt_or_ge 65536 l.length with h | h
 . exact law_huge l h
 rcases Nat.lt_or_ge 8000 l.length with h2 | h2
 . exact law_mid l h2 h
 . exact law_small l h2
theorem rowParse {W : World} (s : ByteArray) (hs : s.size <= 140737488351232) (he : Env W) : Calls Tryz.prog 9 #[.string s] W fun e W' => e = .returned (.bool true) /\ Below W.heap.size W W':=by
 have h:=law_ac (tx s)
 rw [bs_tx] at h
 exact zHb h (relL1 (rel_str (by unfold maxLen; omega))) he
end Go.Proofs.YthjiclhfhjdjpaaGreatDoor
namespace Go.Proofs.YthjiclhfhjdjpaaGreatDoor
open Go.ChangeShapes Go.WideShapes Go.ChangeAt Go.RowKit
attribute [local irreducible] wpList Calls Code.wp
theorem zDZ (H : Type) (enc : TypeId × Value -> H) (W : World) (base : Nat) (args : Array Value) (ds gs : List (DataW H)) (before : List MemPlace)
 (hval : ∀ (j : Nat) t v,Tryz.f9.params[j]? = some t -> args[j]? = some v -> Value.okWide Tryz.prog W .any base t v)
 (hW : DataW.Whole enc Tryz.prog Tryz.f9.params.toList Rows.queryParseSpec.vars false W args.toList ds gs before) (hL : laidMetH Tryz.prog Rows.queryParseRow.laid W)
 (hR : (DataW.weightsEach Tryz.prog (Tryz.f9.params.toList ++ (OpenSpec.ofChange Rows.queryParseSpec).bare.plain.varTypes Tryz.prog) (ds ++ gs)).all (· <= reachBytes) = true) :
 Calls Tryz.prog 9 args W fun e W' => ∃ v,e = .returned v /\ Rows.queryParseSpec.post enc Tryz.prog Tryz.f9 false true false false W args v W':=by
 have hW':=hW
 obtain ⟨p,q,hA0,hV,rfl,hfz,hnd⟩:=hW
 have hA : DataW.TrodAll enc Tryz.prog W 0 (fun _ => true) true Tryz.f9.params.toList args.toList ds p:=hA0
 rw [Tryz.params9] at hA hval hR
 obtain ⟨v0,vs0,d0,ds0,p0,q0,hargs,rfl,rfl,h0,r0⟩:=trodAll_cons hA
 obtain ⟨rfl,rfl,rfl⟩:=trodAll_nil r0
 obtain rfl : args = #[v0]:=by cases args; simp_all
 have hv0:=hval 0 9 v0 rfl rfl
 obtain ⟨s0,rfl,rfl,_,hm0⟩:=Go.ChangeMaps.open_string (r:=.any) (b0:=base) (t:=9) (w:=W) Tryz.underlying9 hv0 h0
 have hs0 : s0.size <= 140737488351232:=reach_size hR (zHf)
 refine (rowParse s0 hs0 (zIB hL)).mono fun e W' ⟨he,hbel⟩ => ?_
 subst he
 exact ⟨_,rfl,post_true laidOut' (types_ok _ (by kernel_rfl)) Tryz.underlying4 rfl rfl hW' hbel (fun gs h => by subst h; rfl)⟩
theorem laid_metQueryParse (os : Os) : laidMet Tryz.prog Rows.queryParseRow.laid ((laidWorld os).forCall (fun _ _ => 0) ⟨#[],#[.string ⟨#[]⟩],[]⟩).memory:=
 laidMet_of_run' 8 (by kernel_rfl) (by kernel_rfl)
theorem zEZ (os : Os) {H : Type} (enc : TypeId × Value -> H) : ∃ places,DataW.whole enc Tryz.prog ((laidWorld os).forCall (fun _ _ => 0) ⟨#[],#[.string ⟨#[]⟩],[]⟩).memory Tryz.f9.params.toList Rows.queryParseSpec.vars false (#[.string ⟨#[]⟩] : Array Value).toList 8 = some ([.lit (.string [])],[],places):=
 ⟨[],by kernel_rfl⟩
theorem zD2 (os : Os) (started : os.Started) (H : Type) (enc : TypeId × Value -> H) (F : Stop.Interp) :
 ReturnsInHanded {} Tryz.checked os 9 .any ((OpenSpec.ofChange Rows.queryParseSpec).preRow enc Tryz.prog Tryz.f9 Rows.queryParseRow.domain false Rows.queryParseRow.laid) (((OpenSpec.ofChange Rows.queryParseSpec).at F).post enc Tryz.prog Tryz.f9 false true false false):=by
 obtain ⟨places,hx⟩:=zEZ os enc
 refine returnsInHanded_of_row (C:=Tryz.checked) (s:=OpenSpec.ofChange Rows.queryParseSpec) own started (by kernel_rfl) Tryz.func9
  (witness_row_at (enc:=enc) (C:=Tryz.checked) false (laidWorld os) #[.string ⟨#[]⟩] rfl (by kernel_rfl) (by kernel_rfl) (by kernel_rfl)
    (OpenSpec.preRow_of_cond 8 hx (by kernel_rfl) (fun k hk => by cases hk) (by kernel_rfl) (laid_metQueryParse os))) ?_
 intro W base args ds gs before hval hW _ _ hR hL _ _
 exact zDZ H enc W base args ds gs before hval hW hL hR
theorem zE5 {a b : Bool} (h1 : a = true) (h2 : b = true) : (a && b) = true:=by rw [h1,h2]; rfl
theorem zD3 : joinedFacts Tryz.prog 9 Tryz.f9 (OpenSpec.ofChange Rows.queryParseSpec).bare Rows.queryParseRow = true:=by
 unfold joinedFacts
 repeat' (with_reducible apply zE5)
 all_goals as_aux_lemma => kernel_rfl
theorem zFA : Rows.QueryParseSaid:=
 OpenClaim.holds_of_cond 9 Tryz.f9 rfl rfl rfl rfl rfl rfl rfl ⟨rfl,rfl,rfl,rfl,rfl⟩ rfl rfl rfl rfl rfl (by kernel_rfl) Tryz.func9 zD3
  (of_decide_eq_true (by kernel_rfl)) (by unfold Func.isWrapper; first | (rw [if_pos (by decide +kernel)]; kernel_rfl) | (rw [if_neg (by decide +kernel)]; exact ⟨rfl,rfl⟩))
  (fun os started H enc _ F => by rw [OpenClaim.pre_eq_preRow]; exact zD2 os started H enc F)
theorem zEa (f : FuncId) (fn : Func) (hf : Tryz.pinned.checked.prog.funcNamed "supergraph/supergraphlaw08.QueryParse" = some f) (hfn : Tryz.pinned.checked.prog.funcs[f]? = some fn) :
 true = Tryz.pinned.checked.prog.looks [] /\ ∀ (j : Nat) t,fn.params[j]? = some t -> Tryz.pinned.checked.prog.wantsStandIn t = false:=by
 obtain rfl : f = 9 := Option.some.inj ((show Tryz.prog.funcNamed "supergraph/supergraphlaw08.QueryParse" = some 9 by kernel_rfl).symm.trans hf) |>.symm
 obtain rfl : fn = Tryz.f9:=(Option.some.inj (Tryz.func9.symm.trans hfn)).symm
 refine ⟨by kernel_rfl,fun j t ht => ?_⟩
 rw [Tryz.params9] at ht
 have hm:=Array.mem_of_getElem? ht
 simp only [List.mem_toArray,List.mem_cons,List.not_mem_nil,or_false] at hm
 rcases hm with rfl
 . exact (show Tryz.prog.wantsStandIn 9 = false by kernel_rfl)
end Go.Proofs.YthjiclhfhjdjpaaGreatDoor
