import Derived.LoopN
import Derived.Test.YtdlnnlglmifceaaGreatDoorV31
set_option maxHeartbeats 8000000
set_option maxRecDepth 100000
set_option linter.unusedVariables false
set_option linter.unusedSimpArgs false
namespace Go.Proofs.YtdlnnlglmifceaaGreatDoor
open Go.RowKit
attribute [local irreducible] wpList Calls Code.wp
section
variable {X : Cx} {nn : Nat}
def rndK (R : Vst nn -> Prop) (K : Exit -> Vst nn -> Prop) : Exit -> Vst nn -> Prop
 | .normal,st => R st
 | e,st => K e st
def rnd (X : Cx) (c : Code) (K : Exit -> Vst nn -> Prop) : Nat -> Vst nn -> Prop
 | 0,_ => False
 | n + 1,st => AW X c st (rndK (rnd X c K n) K)
theorem zF6 {c : Code} {K : Exit -> Vst nn -> Prop} : ∀ (n : Nat) (st : Vst nn) (s : Sg) (w : World) (a : Act),rnd X c K n st -> Inv X st s w a ->
 Code.rounds X.P c (fun e a' w' => ∃ (st' : Vst nn) (s' : Sg),Inv X st' s' w' a' /\ (K e st' \/ PX X e st')) n a w
 | 0,_,_,_,_,h,_ => h.elim
 | n + 1,st,s,w,a,h,hI => by
   rw [rounds_succ]
   refine Code.wp_mono (fun e a2 w2 ⟨st2,s2,hI2,hK⟩ => ?_) (h s w a hI)
   rcases hK with hK | ⟨pv,rfl,hp⟩
   . cases e
     case normal => exact zF6 n st2 s2 w2 a2 hK hI2
     all_goals exact ⟨st2,s2,hI2,.inl hK⟩
   . exact ⟨st2,s2,hI2,.inr ⟨pv,rfl,hp⟩⟩
theorem zCN {c : Code} {st : Vst nn} {K : Exit -> Vst nn -> Prop} (n : Nat) (h : AW X c st (rndK (rnd X c K n) K)) : AW X (.loop c) st K:=fun s w a hI =>
 wp_loop_rounds (n + 1) (zF6 (n + 1) st s w a h hI)
section
variable {st : Vst nn} {K : Exit -> Vst nn -> Prop} {c : Code}
theorem k_rnd {n : Nat} (h : AW X c st (rndK (rnd X c K n) K)) : rndK (rnd X c K (n + 1)) K .normal st:=h
theorem zBt {R : Vst nn -> Prop} {id : Nat} (h : K (.exit id) st) : rndK R K (.exit id) st:=h
theorem zCG {R : Vst nn -> Prop} (h : K .ret st) : rndK R K .ret st:=h
end
end
end Go.Proofs.YtdlnnlglmifceaaGreatDoor
namespace Go.Proofs.YtdlnnlglmifceaaGreatDoor
open Go.RowKit
set_option linter.unusedSectionVars false
attribute [local irreducible] wpList Calls Code.wp AW AWo OpOk seqK zAi zAp loopK endK AC zAC Yld Sub
attribute [local irreducible] ACB ACX absLexG YldG absLexH
def gsX : List D:=[.str ⟨#[117,115,101,114,115]⟩,.str ⟨#[110,97,109,101,115]⟩]
def supX : D:=.obj [.list gsX]
def hopX : D:=.obj [.str ⟨#[81,117,101,114,121]⟩,.str ⟨#[109,101]⟩]
def pkX : D:=.obj [.str ⟨#[110,97,109,101]⟩,.str ⟨#[85,115,101,114]⟩,.str ⟨#[110,97,109,101]⟩,.list [],.obj [],.str ⟨#[]⟩,.int (-1),.list []]
def ftX : D:=.obj [.int 1,.int 2,.list [hopX],.str ⟨#[85,115,101,114]⟩,.list [.str ⟨#[105,100]⟩],.int 1,.list [pkX],.list [.int 0]]
def plX : D:=.obj [.int 1,.list [],.list [ftX]]
theorem zCK : zAX Tryz.prog 36 = some (80,32):=by kernel_rfl
theorem zBn : zAX Tryz.prog 37 = some (82,160):=by kernel_rfl
theorem zCJ : zAX Tryz.prog 38 = some (3,8):=by kernel_rfl
theorem zCL : zAX Tryz.prog 84 = some (40,136):=by kernel_rfl
theorem zHw : wideD ftX:=by simp [wideD,wideL,ftX,hopX,pkX,i64D]
def txX : List UInt8:=[102,101,116,99,104,32,48,58,32,110,97,109,101,115,44,32,100,101,112,116,104,32,50,44,32,97,102,116,101,114,32,48,44,32,97,116,32,81,117,101,114,121,46,109,101,44,32,102,111,114,32,85,115,101,114,44,32,98,121,32,105,100,10,32,32,113,117,101,114,121,40,36,114,58,32,91,95,65,110,121,33,93,33,41,32,123,10,32,32,32,32,95,101,110,116,105,116,105,101,115,40,114,101,112,114,101,115,101,110,116,97,116,105,111,110,115,58,32,36,114,41,32,123,10,32,32,32,32,32,32,46,46,46,32,111,110,32,85,115,101,114,32,123,10,32,32,32,32,32,32,32,32,110,97,109,101,10,32,32,32,32,32,32,125,10,32,32,32,32,125,10,32,32,125,10]
theorem tx_eq : zEV gsX (docF31 1) [ftX] 0 = txX:=by kernel_rfl
theorem doc_ok : DocOk 1048576 24 (.obj [.list (fetchO 8 ftX 1),.list []]):=docOk_of (by kernel_rfl) (zG6 ⟨by decide,by decide⟩ zHw 8) (by decide +kernel)
theorem planX : PlanOk gsX [ftX] 1:=by
 refine ⟨by decide,fun i hi => ?_,fun i hi => ?_,fun i hi => ?_,fun i hi => ?_,?_⟩
 . obtain rfl : i = 0:=by simp at hi; omega
   exact fetOk_of zHw (by decide +kernel) (by decide +kernel)
 . obtain rfl : i = 0:=by simp at hi; omega
   exact cpP_of 8 _ (.inr (by decide +kernel)) (by decide +kernel)
 . obtain rfl : i = 0:=by simp at hi; omega
   exact doc_ok
 . obtain rfl : i = 0:=by simp at hi; omega
   have h1:=zH6 1048576 24 _ doc_ok.wide (by decide)
   have h2 : bulkD (.obj [.list (fetchO 8 ftX 1),.list []]) <= 1048576:=doc_ok.bulk
   show (docT 1048576 (24 + 1) _).length <= _
   exact Nat.le_trans h1 (Nat.le_trans (Nat.mul_le_mul_left 1274 h2) (by decide))
 . rw [tx_eq]; decide +kernel
noncomputable def WSu : V:=.agg (cellsV Tryz.prog 12 35 supX)
noncomputable def WHo : V:=.agg (cellsV Tryz.prog 12 80 hopX)
noncomputable def WPk : V:=.agg (cellsV Tryz.prog 12 82 pkX)
noncomputable def WFt : V:=.agg (cellsV Tryz.prog 12 40 ftX)
noncomputable def WPl : V:=.agg (cellsV Tryz.prog 12 86 plX)
def seX : D:=entS (opSels 8 1 (ftX.f 6).l)
def opX : D:=zBD 1 [zBZ] [seX]
theorem fetX : fetchO 8 ftX 1 = [opX]:=by kernel_rfl
theorem zGS : AC EN Tryz.prog 10 [] (.c (.bool true)):=by
 have h1 : AC EN Tryz.prog 12 [.agg (cellsV Tryz.prog 12 35 supX),.agg (cellsV Tryz.prog 12 40 ftX),.c (.int .i64 1)] (.agg [.sl 47 [opX],.sl 50 []]):=by
  have:=zEE EN 8 supX ftX 1 (planX.cp 0 (by decide))
  rw [fetX] at this
  exact this
 have h2 : AC EN Tryz.prog 32 [.agg (cellsV Tryz.prog 12 35 supX),.agg (cellsV Tryz.prog 12 86 plX)] (.c (.string ⟨#[102,101,116,99,104,32,48,58,32,110,97,109,101,115,44,32,100,101,112,116,104,32,50,44,32,97,102,116,101,114,32,48,44,32,97,116,32,81,117,101,114,121,46,109,101,44,32,102,111,114,32,85,115,101,114,44,32,98,121,32,105,100,10,32,32,113,117,101,114,121,40,36,114,58,32,91,95,65,110,121,33,93,33,41,32,123,10,32,32,32,32,95,101,110,116,105,116,105,101,115,40,114,101,112,114,101,115,101,110,116,97,116,105,111,110,115,58,32,36,114,41,32,123,10,32,32,32,32,32,32,46,46,46,32,111,110,32,85,115,101,114,32,123,10,32,32,32,32,32,32,32,32,110,97,109,101,10,32,32,32,32,32,32,125,10,32,32,32,32,125,10,32,32,125,10]⟩)):=by
  have:=showP_ac supX plX planX
  rw [show zEV (supX.f 0).l (docF31 (plX.f 0).n) (plX.f 2).l 0 = txX from tx_eq] at this
  exact this
 have e1 : cellsV Tryz.prog 12 35 supX = [.sl 9 gsX,.sl 278 [],.sl 280 [],.sl 282 []]:=by kernel_rfl
 have e2 : cellsV Tryz.prog 12 40 ftX = [.c (.int .i64 1),.c (.int .i64 2),.sl 80 [hopX],.c (.string ⟨#[85,115,101,114]⟩),.sl 9 [.str ⟨#[105,100]⟩],.c (.int .i64 1),.sl 82 [pkX],.sl 3 [.int 0]]:=by kernel_rfl
 have e3 : cellsV Tryz.prog 12 86 plX = [.c (.int .i64 1),.sl 82 [],.sl 40 [ftX]]:=by kernel_rfl
 rw [e1,e2] at h1
 rw [e1,e3] at h2
 refine zh 62 Tryz.func10 rfl rfl rfl rfl ?_
 intro s w he
 repeat' (first
|apply zAo (WSu) rfl rfl
 . conv => lhs; whnf; arg 2; whnf
 . repeat' (first | exact VLe.refl _ | exact VLe.nil _ | exact VLe.lit _ _ | exact VLe.own _ _ _ | apply VLe.agg | apply VLeL.cons | exact VLeL.nil)
|apply zAo (WHo) rfl rfl
 . conv => lhs; whnf; arg 2; whnf
 . repeat' (first | exact VLe.refl _ | exact VLe.nil _ | exact VLe.lit _ _ | exact VLe.own _ _ _ | apply VLe.agg | apply VLeL.cons | exact VLeL.nil)
|apply zAo (WPk) rfl rfl
 . conv => lhs; whnf; arg 2; whnf
 . repeat' (first | exact VLe.refl _ | exact VLe.nil _ | exact VLe.lit _ _ | exact VLe.own _ _ _ | apply VLe.agg | apply VLeL.cons | exact VLeL.nil)
|apply zAo (WFt) rfl rfl
 . conv => lhs; whnf; arg 2; whnf
 . repeat' (first | exact VLe.refl _ | exact VLe.nil _ | exact VLe.lit _ _ | exact VLe.own _ _ _ | apply VLe.agg | apply VLeL.cons | exact VLeL.nil)
|apply zAo (WPl) rfl rfl
 . conv => lhs; whnf; arg 2; whnf
 . repeat' (first | exact VLe.refl _ | exact VLe.nil _ | exact VLe.lit _ _ | exact VLe.own _ _ _ | apply VLe.agg | apply VLeL.cons | exact VLeL.nil)
|apply zA2 [.int 0] rfl rfl
 . conv => lhs; whnf
 . first | exact zZ | exact zCK | exact zBn | exact zCJ | exact zCL | (conv => lhs; whnf; arg 1; whnf)
 . rfl
 . rfl
 . repeat' (first | exact trivial | apply And.intro | rfl)
|apply zA2 gsX rfl rfl
 . conv => lhs; whnf
 . first | exact zZ | exact zCK | exact zBn | exact zCJ | exact zCL | (conv => lhs; whnf; arg 1; whnf)
 . rfl
 . rfl
 . repeat' (first | exact trivial | apply And.intro | rfl)
|apply zA2 [hopX] rfl rfl
 . conv => lhs; whnf
 . first | exact zZ | exact zCK | exact zBn | exact zCJ | exact zCL | (conv => lhs; whnf; arg 1; whnf)
 . rfl
 . rfl
 . repeat' (first | exact trivial | apply And.intro | rfl)
|apply zA2 [.str ⟨#[105,100]⟩] rfl rfl
 . conv => lhs; whnf
 . first | exact zZ | exact zCK | exact zBn | exact zCJ | exact zCL | (conv => lhs; whnf; arg 1; whnf)
 . rfl
 . rfl
 . repeat' (first | exact trivial | apply And.intro | rfl)
|apply zA2 [pkX] rfl rfl
 . conv => lhs; whnf
 . first | exact zZ | exact zCK | exact zBn | exact zCJ | exact zCL | (conv => lhs; whnf; arg 1; whnf)
 . rfl
 . rfl
 . repeat' (first | exact trivial | apply And.intro | rfl)
|apply zA2 [ftX] rfl rfl
 . conv => lhs; whnf
 . first | exact zZ | exact zCK | exact zBn | exact zCJ | exact zCL | (conv => lhs; whnf; arg 1; whnf)
 . rfl
 . rfl
 . repeat' (first | exact trivial | apply And.intro | rfl)
|apply s_wanted_pick_t rfl rfl rfl
 . conv => lhs; whnf
 . first | rfl | assumption | decide +kernel
 . conv => lhs; whnf
 . first | decide +kernel | rfl
|apply zAL rfl rfl rfl
 . conv => lhs; whnf
 . first | rfl | assumption | decide +kernel
 . conv => lhs; whnf
 . first | decide +kernel | rfl
|apply s_wanted_pick_f rfl rfl rfl
 . conv => lhs; whnf
 . first | rfl | assumption | decide +kernel
 . conv => lhs; whnf
 . first | decide +kernel | rfl
|apply zAM rfl rfl rfl
 . conv => lhs; whnf
 . first | rfl | assumption | decide +kernel
 . conv => lhs; whnf
 . first | decide +kernel | rfl
|apply zCN 7
|refine k_rnd ?_
|refine zBt ?_
|refine zCG ?_
|apply zT
 . conv => lhs; whnf
 . decide +kernel
|apply zQ
 . conv => lhs; whnf
 . decide +kernel
|refine zB ?_
|refine zM ?_
|refine zk ?_
|refine zV ?_
|refine zd ?_
|apply aw_1
 conv => whnf
 refine ⟨?_,trivial⟩
|apply zp rfl rfl
 . conv => lhs; whnf
 . conv => lhs; whnf
 . first | decide +kernel
|apply zo rfl rfl
 . conv => lhs; whnf
 . conv => lhs; whnf
 . first | decide +kernel
|apply s_1
 conv => whnf; arg 1; arg 4; arg 3; whnf
 refine ⟨?_,?_⟩
|apply z7 rfl
 . conv => lhs; whnf
 . conv => lhs; whnf; arg 2; whnf
|apply zl rfl
 . conv => lhs; whnf
 . conv => lhs; whnf
 . first | exact h1 | exact h2
|apply zr rfl rfl rfl rfl
 . conv => lhs; whnf; arg 1; whnf
 . rfl
|apply zq rfl rfl rfl
 . conv => lhs; whnf
 . conv => lhs; whnf; arg 1; whnf
 . conv => lhs; whnf; arg 1; whnf
 . exact ⟨by kernel_rfl,by kernel_rfl⟩
 . rfl
|apply zAU rfl rfl
 . conv => lhs; whnf
 . first | exact zZ | exact zCK | exact zBn | exact zCJ | exact zCL | (conv => lhs; whnf; arg 1; whnf)
|apply zAT rfl rfl
 . conv => lhs; whnf
 . first | exact zZ | exact zCK | exact zBn | exact zCJ | exact zCL | (conv => lhs; whnf; arg 1; whnf)
 . conv => lhs; whnf; arg 1; whnf
 . rfl
 . rfl
|apply zS rfl
 . conv => lhs; whnf
 . conv => lhs; whnf
 . first | rfl | assumption | decide +kernel
 . conv => lhs; whnf; arg 2; whnf
|apply zR rfl
 . conv => lhs; whnf
 . conv => lhs; whnf
 . first | rfl | assumption | decide +kernel
 . conv => lhs; whnf
 . first | exact h1 | exact h2
|apply zAI rfl
 . conv => lhs; whnf
 . conv => lhs; whnf
 . first | rfl | assumption | decide +kernel
|apply zAy rfl
 . conv => lhs; whnf
 . rfl
 . rfl
|apply zf rfl
 . conv => lhs; whnf
 . conv => lhs; whnf
 . conv => lhs; whnf; arg 2; whnf
|apply zu rfl
 . conv => lhs; whnf
 . conv => lhs; whnf
 . conv => lhs; whnf
 . first | exact h1 | exact h2
|apply zm rfl
 . conv => lhs; whnf
 . conv => lhs; whnf
 . conv => lhs; whnf; arg 2; whnf
|apply zi rfl
 . conv => lhs; whnf
 . conv => lhs; whnf
 . conv => lhs; whnf
 . first | exact h1 | exact h2
|apply zN
 . conv => lhs; whnf; arg 1; arg 1; whnf
|apply zO
 . conv => lhs; whnf; arg 1; arg 1; whnf
|refine zW (by conv => lhs; whnf) ?_ ?_ <;> intro hb
|refine zn ?_
|refine zb ?_
|refine zH ?_
|refine zL ?_
|refine zG ?_
|refine zD rfl ?_
|refine zF rfl ?_
|refine zE ?_
|refine zJ ?_
|refine zC ?_
|refine zK ?_
|refine z8 ?_
|refine zI ?_
|refine ⟨_,by conv => lhs; whnf; arg 2; whnf,?_⟩; conv => rhs; whnf
|exact trivial
|intro hg)
 all_goals first
  | rfl
  | decide
  | exact congrArg (fun b => V.c (Value.bool b)) (by decide +kernel)
  | (refine ⟨(show Tryz.prog.underlying 9 = some .string by kernel_rfl),?_⟩; decide +kernel)
theorem queries_ac (s0 f : D) (kind : Int) (hcp : largeB 8 (f.f 6).l = false -> CpP 8 (f.f 6).l) : AC EN Tryz.prog 4 [.agg (cellsV Tryz.prog 12 35 s0),.agg (cellsV Tryz.prog 12 40 f),.c (.int .i64 kind)] (.c (.bool true)):=by
 have h1:=fits8_ac s0 f kind hcp
 have h5:=zGS
 cases hF : zH0 (s0.f 0).l f kind with
 | false =>
   rw [hF] at h1
   refine zh 25 Tryz.func4 rfl rfl rfl rfl ?_
   intro s w he
   repeat' (first
|apply s_wanted_pick_t rfl rfl rfl
 . conv => lhs; whnf
 . first | rfl | assumption
 . conv => lhs; whnf
 . first | exact bT1 ‹_› | exact bT2 ‹_› | rfl
|apply zAL rfl rfl rfl
 . conv => lhs; whnf
 . first | rfl | assumption
 . conv => lhs; whnf
 . first | exact bT1 ‹_› | exact bT2 ‹_› | rfl
|apply s_wanted_pick_f rfl rfl rfl
 . conv => lhs; whnf
 . first | rfl | assumption
 . conv => lhs; whnf
 . first | exact bF1 ‹_› | exact bF2 ‹_› | rfl
|apply zAM rfl rfl rfl
 . conv => lhs; whnf
 . first | rfl | assumption
 . conv => lhs; whnf
 . first | exact bF1 ‹_› | exact bF2 ‹_› | rfl
|apply zT
 . conv => lhs; whnf
 . assumption
|apply zQ
 . conv => lhs; whnf
 . assumption
|refine zj ?_
|refine za ?_
|refine zAb ?_
|refine zB ?_
|refine zM ?_
|refine zk ?_
|refine zV ?_
|refine zd ?_
|apply aw_1
 conv => whnf
 refine ⟨?_,trivial⟩
|apply zp rfl rfl
 . conv => lhs; whnf
 . conv => lhs; whnf
 . first | exact bT1 ‹_› | exact bT2 ‹_›
|apply zo rfl rfl
 . conv => lhs; whnf
 . conv => lhs; whnf
 . first | exact bF1 ‹_› | exact bF2 ‹_›
|apply s_1
 conv => whnf; arg 1; arg 4; arg 3; whnf
 refine ⟨?_,?_⟩
|apply z7 rfl
 . conv => lhs; whnf
 . conv => lhs; whnf; arg 2; whnf
|apply zl rfl
 . conv => lhs; whnf
 . conv => lhs; whnf
 . first | exact h1 | exact h5
|apply zAV rfl rfl rfl rfl
 . conv => lhs; whnf; arg 1; whnf
 . rfl
|apply zS rfl
 . conv => lhs; whnf
 . conv => lhs; whnf
 . first | rfl | assumption
 . conv => lhs; whnf; arg 2; whnf
|apply zR rfl
 . conv => lhs; whnf
 . conv => lhs; whnf
 . first | rfl | assumption
 . conv => lhs; whnf
 . first | exact h1 | exact h5
|apply zAI rfl
 . conv => lhs; whnf
 . conv => lhs; whnf
 . first | rfl | assumption
|apply zAy rfl
 . conv => lhs; whnf
 . rfl
 . rfl
|apply zf rfl
 . conv => lhs; whnf
 . conv => lhs; whnf
 . conv => lhs; whnf; arg 2; whnf
|apply zu rfl
 . conv => lhs; whnf
 . conv => lhs; whnf
 . conv => lhs; whnf
 . first | exact h1 | exact h5
|apply zm rfl
 . conv => lhs; whnf
 . conv => lhs; whnf
 . conv => lhs; whnf; arg 2; whnf
|apply zi rfl
 . conv => lhs; whnf
 . conv => lhs; whnf
 . conv => lhs; whnf
 . first | exact h1 | exact h5
|apply zw (by kernel_rfl) (by kernel_rfl)
|apply zAd
|apply zAg rfl rfl
 . conv => lhs; whnf
 . conv => lhs; whnf
 . first | exact bT1 ‹_› | exact bT2 ‹_›
|apply zAY rfl rfl
 . conv => lhs; whnf
 . conv => lhs; whnf
 . first | exact bF1 ‹_› | exact bF2 ‹_›
|apply zAc rfl
 . conv => lhs; whnf
 . conv => lhs; whnf; arg 2; whnf
|apply zAQ rfl
 . conv => lhs; whnf
 . conv => lhs; whnf
 . first | exact h1 | exact h5
|apply zy rfl
 . conv => lhs; whnf
 . conv => lhs; whnf
 . first | rfl | assumption
 . conv => lhs; whnf; arg 2; whnf
|apply zt rfl
 . conv => lhs; whnf
 . conv => lhs; whnf
 . first | rfl | assumption
 . conv => lhs; whnf
 . first | exact h1 | exact h5
|apply zA1 rfl
 . conv => lhs; whnf
 . conv => lhs; whnf
 . first | rfl | assumption
|apply zAE rfl
 . conv => lhs; whnf
 . conv => lhs; whnf
 . conv => lhs; whnf; arg 2; whnf
|apply zAA rfl
 . conv => lhs; whnf
 . conv => lhs; whnf
 . conv => lhs; whnf
 . first | exact h1 | exact h5
|exact zX
|exact ze
|exact all_nil
|show List.all _ _ = true; rfl
|show zAB _ _ = true; rfl
|exact ([] : List Nat)
|exact (1000000 : Nat)
|apply zN
 . conv => lhs; whnf; arg 1; arg 1; whnf
|apply zO
 . conv => lhs; whnf; arg 1; arg 1; whnf
|refine zW (by conv => lhs; whnf) ?_ ?_ <;> intro hb
|refine zn ?_
|refine zb ?_
|refine zH ?_
|refine zL ?_
|refine zG ?_
|refine zD rfl ?_
|refine zF rfl ?_
|refine zE ?_
|refine zJ ?_
|refine zC ?_
|refine zK ?_
|refine z8 ?_
|refine zI ?_
|refine ⟨_,by conv => lhs; whnf; arg 2; whnf,?_⟩; conv => rhs; whnf
|exact trivial
|intro hg)
   all_goals first
    | rfl
    | exact (show Tryz.prog.underlying 4 = some TypeDesc.bool by kernel_rfl)
    | skip
 | true =>
   rw [hF] at h1
   have hl : largeB 8 (f.f 6).l = false:=by
    unfold zH0 at hF
    simp only [Bool.and_eq_true,Bool.not_eq_true'] at hF
    exact hF.1.1.2
   have h2:=zEE EN 8 s0 f kind (hcp hl)
   have h3 : AC EN Tryz.prog 13 [.agg (cellsV Tryz.prog 12 35 s0),.agg (cellsV Tryz.prog 12 40 f),.c (.int .i64 kind)] (.agg [.sl 47 (fetchO 8 f kind),.sl 50 []]):=zGR EN 7 s0 f kind (hcp hl)
   have h4:=sameQ8_ac (fetchO 8 f kind) []
   refine zh 25 Tryz.func4 rfl rfl rfl rfl ?_
   intro s w he
   repeat' (first
|apply s_wanted_pick_t rfl rfl rfl
 . conv => lhs; whnf
 . first | rfl | assumption
 . conv => lhs; whnf
 . first | exact bT1 ‹_› | exact bT2 ‹_› | rfl
|apply zAL rfl rfl rfl
 . conv => lhs; whnf
 . first | rfl | assumption
 . conv => lhs; whnf
 . first | exact bT1 ‹_› | exact bT2 ‹_› | rfl
|apply s_wanted_pick_f rfl rfl rfl
 . conv => lhs; whnf
 . first | rfl | assumption
 . conv => lhs; whnf
 . first | exact bF1 ‹_› | exact bF2 ‹_› | rfl
|apply zAM rfl rfl rfl
 . conv => lhs; whnf
 . first | rfl | assumption
 . conv => lhs; whnf
 . first | exact bF1 ‹_› | exact bF2 ‹_› | rfl
|apply zT
 . conv => lhs; whnf
 . assumption
|apply zQ
 . conv => lhs; whnf
 . assumption
|refine zj ?_
|refine za ?_
|refine zAb ?_
|refine zB ?_
|refine zM ?_
|refine zk ?_
|refine zV ?_
|refine zd ?_
|apply aw_1
 conv => whnf
 refine ⟨?_,trivial⟩
|apply zp rfl rfl
 . conv => lhs; whnf
 . conv => lhs; whnf
 . first | exact bT1 ‹_› | exact bT2 ‹_›
|apply zo rfl rfl
 . conv => lhs; whnf
 . conv => lhs; whnf
 . first | exact bF1 ‹_› | exact bF2 ‹_›
|apply s_1
 conv => whnf; arg 1; arg 4; arg 3; whnf
 refine ⟨?_,?_⟩
|apply z7 rfl
 . conv => lhs; whnf
 . conv => lhs; whnf; arg 2; whnf
|apply zl rfl
 . conv => lhs; whnf
 . conv => lhs; whnf
 . first | exact h1 | exact h2 | exact h3 | exact h4 | exact h5
|apply zAV rfl rfl rfl rfl
 . conv => lhs; whnf; arg 1; whnf
 . rfl
|apply zS rfl
 . conv => lhs; whnf
 . conv => lhs; whnf
 . first | rfl | assumption
 . conv => lhs; whnf; arg 2; whnf
|apply zR rfl
 . conv => lhs; whnf
 . conv => lhs; whnf
 . first | rfl | assumption
 . conv => lhs; whnf
 . first | exact h1 | exact h2 | exact h3 | exact h4 | exact h5
|apply zAI rfl
 . conv => lhs; whnf
 . conv => lhs; whnf
 . first | rfl | assumption
|apply zAy rfl
 . conv => lhs; whnf
 . rfl
 . rfl
|apply zf rfl
 . conv => lhs; whnf
 . conv => lhs; whnf
 . conv => lhs; whnf; arg 2; whnf
|apply zu rfl
 . conv => lhs; whnf
 . conv => lhs; whnf
 . conv => lhs; whnf
 . first | exact h1 | exact h2 | exact h3 | exact h4 | exact h5
|apply zm rfl
 . conv => lhs; whnf
 . conv => lhs; whnf
 . conv => lhs; whnf; arg 2; whnf
|apply zi rfl
 . conv => lhs; whnf
 . conv => lhs; whnf
 . conv => lhs; whnf
 . first | exact h1 | exact h2 | exact h3 | exact h4 | exact h5
|apply zw (by kernel_rfl) (by kernel_rfl)
|apply zAd
|apply zAg rfl rfl
 . conv => lhs; whnf
 . conv => lhs; whnf
 . first | exact bT1 ‹_› | exact bT2 ‹_›
|apply zAY rfl rfl
 . conv => lhs; whnf
 . conv => lhs; whnf
 . first | exact bF1 ‹_› | exact bF2 ‹_›
|apply zAc rfl
 . conv => lhs; whnf
 . conv => lhs; whnf; arg 2; whnf
|apply zAQ rfl
 . conv => lhs; whnf
 . conv => lhs; whnf
 . first | exact h1 | exact h2 | exact h3 | exact h4 | exact h5
|apply zy rfl
 . conv => lhs; whnf
 . conv => lhs; whnf
 . first | rfl | assumption
 . conv => lhs; whnf; arg 2; whnf
|apply zt rfl
 . conv => lhs; whnf
 . conv => lhs; whnf
 . first | rfl | assumption
 . conv => lhs; whnf
 . first | exact h1 | exact h2 | exact h3 | exact h4 | exact h5
|apply zA1 rfl
 . conv => lhs; whnf
 . conv => lhs; whnf
 . first | rfl | assumption
|apply zAE rfl
 . conv => lhs; whnf
 . conv => lhs; whnf
 . conv => lhs; whnf; arg 2; whnf
|apply zAA rfl
 . conv => lhs; whnf
 . conv => lhs; whnf
 . conv => lhs; whnf
 . first | exact h1 | exact h2 | exact h3 | exact h4 | exact h5
|exact zX
|exact ze
|exact all_nil
|show List.all _ _ = true; rfl
|show zAB _ _ = true; rfl
|exact ([] : List Nat)
|exact (1000000 : Nat)
|apply zN
 . conv => lhs; whnf; arg 1; arg 1; whnf
|apply zO
 . conv => lhs; whnf; arg 1; arg 1; whnf
|refine zW (by conv => lhs; whnf) ?_ ?_ <;> intro hb
|refine zn ?_
|refine zb ?_
|refine zH ?_
|refine zL ?_
|refine zG ?_
|refine zD rfl ?_
|refine zF rfl ?_
|refine zE ?_
|refine zJ ?_
|refine zC ?_
|refine zK ?_
|refine z8 ?_
|refine zI ?_
|refine ⟨_,by conv => lhs; whnf; arg 2; whnf,?_⟩; conv => rhs; whnf
|exact trivial
|intro hg)
   all_goals first
    | rfl
    | exact (show Tryz.prog.underlying 4 = some TypeDesc.bool by kernel_rfl)
    | skip
end Go.Proofs.YtdlnnlglmifceaaGreatDoor
