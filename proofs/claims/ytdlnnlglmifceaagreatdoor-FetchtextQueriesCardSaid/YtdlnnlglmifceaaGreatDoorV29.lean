import Derived.Test.YtdlnnlglmifceaaGreatDoorV28
set_option maxHeartbeats 8000000
set_option maxRecDepth 100000
set_option linter.unusedVariables false
set_option linter.unusedSimpArgs false
namespace Go.Proofs.YtdlnnlglmifceaaGreatDoor
open Go.RowKit
set_option linter.unusedSectionVars false
attribute [local irreducible] wpList Calls Code.wp AW AWo OpOk seqK zAi zAp loopK endK AC zAC Yld Sub
attribute [local irreducible] ACB ACX absLexG YldG absLexH
theorem zB7 {b : Bool} (h : b = true) : (b == true) = true:=by rw [h]; rfl
theorem zDi {b : Bool} (h : b = false) : (b == true) = false:=by rw [h]; rfl
theorem zGu (s : ByteArray) : (s.toList == (⟨#[]⟩ : ByteArray).toList) = (s.toList == []):=by rw [Lib.toList_data (⟨#[]⟩ : ByteArray)]
noncomputable def HSo31 (on : ByteArray) (l acc : List D) (i : Nat) : Vst 88:=
 stS 88 [(0,.sl 82 l),(1,.c (.string on)),(5,.own 5 57 acc),(6,.c (.int .i64 (i : Int)))] [(5,.tok 57 acc.length)]
noncomputable def inlV (p : D) (b : Bool) (g : List D) : List V:=
 [.c (.int .i64 3),.c (.string ⟨#[]⟩),.c (.string ⟨#[]⟩),.c (.string (p.f 1).s),.c (.slice none 0 0),bif b then .lit 129 [zDe (p.f 5).s] else .c (.slice none 0 0),.own 901 57 g]
noncomputable def HSi31 (on : ByteArray) (l acc : List D) (p : D) (b : Bool) (g : List D) (i : Nat) : Vst 88:=
 stS 88 [(0,.sl 82 l),(1,.c (.string on)),(5,.own 5 57 acc),(6,.c (.int .i64 (i : Int))),(7,.bx 7 0),(8,.bx 8 0)]
  [(5,.tok 57 acc.length),(7,.box 82 (cellsV Tryz.prog 12 82 p)),(8,.box 57 (inlV p b g)),(901,.tok 57 g.length)]
def inlB (b : Bool) (p : D) (fs : List D) : D:=sD31 3 ⟨#[]⟩ ⟨#[]⟩ (p.f 1).s [] (bif b then [zDe (p.f 5).s] else []) fs
theorem zDM {b : Bool} {p : D} (fs : List D) (h : (((p.f 5).s.toList == (⟨#[]⟩ : ByteArray).toList)) = !b) : inlD p fs = inlB b p fs:=by
 rw [zGu] at h
 unfold inlD inlB
 rw [h]
 cases b <;> rfl
theorem zEi (E0 : Ge) (f : D -> D) (on : ByteArray) (l : List D) (hl : l.length <= 60)
 (hf : ∀ i,i < l.length -> AC E0 Tryz.prog 104 [.agg (cellsV Tryz.prog 12 82 (gD l i))] (.agg (cellsV Tryz.prog 12 57 (f (gD l i))))) :
 AC E0 Tryz.prog 66 [.sl 82 l,.c (.string on)] (.sl 57 (selsI f on l l.length 0)):=by
 generalize hR : selsI f on l l.length 0 = R
 refine zh 88 Tryz.func66 rfl rfl rfl rfl ?_
 intro s w he
 repeat' (first
|refine zB ?_
|refine zM ?_
|refine zk ?_
|refine zV ?_
|refine zd ?_
|apply aw_1
 conv => whnf
 refine ⟨?_,trivial⟩
|apply zp rfl rfl
 . conv => lhs; whnf
 . conv => lhs; whnf
 . first | exact bT1 ‹_› | exact bT2 ‹_›
|apply zo rfl rfl
 . conv => lhs; whnf
 . conv => lhs; whnf
 . first | exact bF1 ‹_› | exact bF2 ‹_›
|apply s_1
 conv => whnf; arg 1; arg 4; arg 3; whnf
 refine ⟨?_,?_⟩
|apply z7 rfl
 . conv => lhs; whnf
 . conv => lhs; whnf; arg 2; whnf
|apply zl rfl
 . conv => lhs; whnf
 . conv => lhs; whnf
 . first | fail
|apply zr rfl rfl rfl rfl
 . conv => lhs; whnf; arg 1; whnf
 . rfl
|apply zq rfl rfl rfl
 . conv => lhs; whnf
 . conv => lhs; whnf; arg 1; whnf
 . conv => lhs; whnf; arg 1; whnf
 . exact ⟨by kernel_rfl,by kernel_rfl⟩
 . rfl
|apply zAu rfl rfl
 . conv => lhs; whnf
 . first | (conv => lhs; whnf; arg 1; whnf)
 . first | exact fun _ => rfl | (intro _; kernel_rfl)
 . conv => lhs; whnf
 . conv => lhs; whnf; arg 1; whnf
 . conv => lhs; whnf
|apply zx rfl rfl rfl rfl
 . first | (conv => lhs; whnf; arg 1; whnf)
 . first | exact fun _ => rfl | (intro _; kernel_rfl)
 . conv => lhs; whnf
 . conv => lhs; whnf
|apply zAU rfl rfl
 . conv => lhs; whnf
 . first | (conv => lhs; whnf; arg 1; whnf)
|apply zAT rfl rfl
 . conv => lhs; whnf
 . first | (conv => lhs; whnf; arg 1; whnf)
 . conv => lhs; whnf; arg 1; whnf
 . rfl
 . rfl
|apply zAO rfl rfl
 . conv => lhs; whnf
 . first | (conv => lhs; whnf; arg 1; whnf)
 . first | exact fun _ => rfl | (intro _; kernel_rfl)
 . conv => lhs; whnf
 . conv => lhs; whnf
|apply zS rfl
 . conv => lhs; whnf
 . conv => lhs; whnf
 . first | rfl | assumption
 . conv => lhs; whnf; arg 2; whnf
|apply zR rfl
 . conv => lhs; whnf
 . conv => lhs; whnf
 . first | rfl | assumption
 . conv => lhs; whnf
 . first | fail
|apply zA6 rfl
 . conv => lhs; whnf
 . conv => lhs; whnf
 . first | rfl | assumption
|apply zm rfl
 . conv => lhs; whnf
 . conv => lhs; whnf
 . conv => lhs; whnf; arg 2; whnf
|apply zi rfl
 . conv => lhs; whnf
 . conv => lhs; whnf
 . conv => lhs; whnf
 . first | fail
|apply zw (by kernel_rfl) (by kernel_rfl)
|apply zAd
|apply zAg rfl rfl
 . conv => lhs; whnf
 . conv => lhs; whnf
 . first | exact bT1 ‹_› | exact bT2 ‹_›
|apply zAY rfl rfl
 . conv => lhs; whnf
 . conv => lhs; whnf
 . first | exact bF1 ‹_› | exact bF2 ‹_›
|apply zAc rfl
 . conv => lhs; whnf
 . conv => lhs; whnf; arg 2; whnf
|apply zAQ rfl
 . conv => lhs; whnf
 . conv => lhs; whnf
 . first | fail
|apply zAD rfl rfl rfl
 . conv => lhs; whnf
 . rfl
 . rfl
 . conv => lhs; whnf; arg 1; whnf
 . conv => lhs; whnf; arg 1; whnf
 . exact ⟨by kernel_rfl,by kernel_rfl⟩
 . rfl
|apply zAz rfl rfl
 . conv => lhs; whnf
 . first | (conv => lhs; whnf; arg 1; whnf)
 . first | exact fun _ => rfl | (intro _; kernel_rfl)
 . conv => lhs; whnf
 . rfl
 . rfl
 . conv => lhs; whnf; arg 1; whnf
 . conv => lhs; whnf
|apply zAa rfl rfl
 . conv => lhs; whnf
 . first | (conv => lhs; whnf; arg 1; whnf)
|apply zAZ rfl rfl
 . conv => lhs; whnf
 . first | (conv => lhs; whnf; arg 1; whnf)
 . conv => lhs; whnf; arg 1; whnf
 . rfl
 . rfl
|apply zAS rfl rfl
 . conv => lhs; whnf
 . first | (conv => lhs; whnf; arg 1; whnf)
 . first | exact fun _ => rfl | (intro _; kernel_rfl)
 . conv => lhs; whnf
 . conv => lhs; whnf
|apply zy rfl
 . conv => lhs; whnf
 . conv => lhs; whnf
 . first | rfl | assumption
 . conv => lhs; whnf; arg 2; whnf
|apply zt rfl
 . conv => lhs; whnf
 . conv => lhs; whnf
 . first | rfl | assumption
 . conv => lhs; whnf
 . first | fail
|apply zA1 rfl
 . conv => lhs; whnf
 . conv => lhs; whnf
 . first | rfl | assumption
|apply zAE rfl
 . conv => lhs; whnf
 . conv => lhs; whnf
 . conv => lhs; whnf; arg 2; whnf
|apply zAA rfl
 . conv => lhs; whnf
 . conv => lhs; whnf
 . conv => lhs; whnf
 . first | fail
|exact zX
|exact ze
|exact all_nil
|show List.all _ _ = true; rfl
|show zAB _ _ = true; rfl
|exact ([] : List Nat)
|exact (1000000 : Nat)
|apply zN
 . conv => lhs; whnf; arg 1; arg 1; whnf
|apply zO
 . conv => lhs; whnf; arg 1; arg 1; whnf
|refine zW (by conv => lhs; whnf) ?_ ?_ <;> intro hb
|refine zn ?_
|refine zb ?_
|refine zH ?_
|refine zL ?_
|refine zG ?_
|refine zD rfl ?_
|refine zF rfl ?_
|refine zE ?_
|refine zJ ?_
|refine zC ?_
|refine zK ?_
|refine z8 ?_
|refine zI ?_
|refine ⟨_,by conv => lhs; whnf; arg 2; whnf,?_⟩; conv => rhs; whnf
|exact trivial
|intro hg)
 refine zAF (Sub.own (t:=5) (e:=57) rfl rfl) ?_
 refine zAG (fun n st => ∃ i acc j,acc ++ selsI f on l j i = R /\ n + i = l.length /\ l.length <= i + j /\ acc.length <= i /\ Sub (cx E0 Tryz.prog s w he) st (HSo31 on l acc i)) l.length ⟨0,[],l.length,hR,by omega,by omega,Nat.le_refl _,Sub.live ⟨rfl,rfl,rfl,rfl,trivial⟩ ⟨rfl,trivial⟩⟩ ?_
 clear hR
 rintro n st ⟨i,acc,j,hR,hn,hj,hac,hs2⟩
 refine zAF hs2 ?_
 clear hs2
 by_cases hi : i < l.length
 rotate_left 1
 . have f0 : decide ((i : Int) < (l.length : Nat)) = false:=decide_eq_false (by omega)
   rw [zC3 hi,List.append_nil] at hR
   subst hR
   repeat' (first
|apply zT
 . conv => lhs; whnf
 . assumption
|apply zQ
 . conv => lhs; whnf
 . assumption
|refine zj ?_
|refine za ?_
|refine zAb ?_
|refine zB ?_
|refine zM ?_
|refine zk ?_
|refine zV ?_
|refine zd ?_
|apply aw_1
 conv => whnf
 refine ⟨?_,trivial⟩
|apply zp rfl rfl
 . conv => lhs; whnf
 . conv => lhs; whnf
 . first | exact bT1 ‹_› | exact bT2 ‹_›
|apply zo rfl rfl
 . conv => lhs; whnf
 . conv => lhs; whnf
 . first | exact bF1 ‹_› | exact bF2 ‹_›
|apply s_1
 conv => whnf; arg 1; arg 4; arg 3; whnf
 refine ⟨?_,?_⟩
|apply z7 rfl
 . conv => lhs; whnf
 . conv => lhs; whnf; arg 2; whnf
|apply zl rfl
 . conv => lhs; whnf
 . conv => lhs; whnf
 . first | fail
|apply zr rfl rfl rfl rfl
 . conv => lhs; whnf; arg 1; whnf
 . rfl
|apply zq rfl rfl rfl
 . conv => lhs; whnf
 . conv => lhs; whnf; arg 1; whnf
 . conv => lhs; whnf; arg 1; whnf
 . exact ⟨by kernel_rfl,by kernel_rfl⟩
 . rfl
|apply zAu rfl rfl
 . conv => lhs; whnf
 . first | (conv => lhs; whnf; arg 1; whnf)
 . first | exact fun _ => rfl | (intro _; kernel_rfl)
 . conv => lhs; whnf
 . conv => lhs; whnf; arg 1; whnf
 . conv => lhs; whnf
|apply zx rfl rfl rfl rfl
 . first | (conv => lhs; whnf; arg 1; whnf)
 . first | exact fun _ => rfl | (intro _; kernel_rfl)
 . conv => lhs; whnf
 . conv => lhs; whnf
|apply zAU rfl rfl
 . conv => lhs; whnf
 . first | (conv => lhs; whnf; arg 1; whnf)
|apply zAT rfl rfl
 . conv => lhs; whnf
 . first | (conv => lhs; whnf; arg 1; whnf)
 . conv => lhs; whnf; arg 1; whnf
 . rfl
 . rfl
|apply zAO rfl rfl
 . conv => lhs; whnf
 . first | (conv => lhs; whnf; arg 1; whnf)
 . first | exact fun _ => rfl | (intro _; kernel_rfl)
 . conv => lhs; whnf
 . conv => lhs; whnf
|apply zS rfl
 . conv => lhs; whnf
 . conv => lhs; whnf
 . first | rfl | assumption
 . conv => lhs; whnf; arg 2; whnf
|apply zR rfl
 . conv => lhs; whnf
 . conv => lhs; whnf
 . first | rfl | assumption
 . conv => lhs; whnf
 . first | fail
|apply zA6 rfl
 . conv => lhs; whnf
 . conv => lhs; whnf
 . first | rfl | assumption
|apply zm rfl
 . conv => lhs; whnf
 . conv => lhs; whnf
 . conv => lhs; whnf; arg 2; whnf
|apply zi rfl
 . conv => lhs; whnf
 . conv => lhs; whnf
 . conv => lhs; whnf
 . first | fail
|apply zw (by kernel_rfl) (by kernel_rfl)
|apply zAd
|apply zAg rfl rfl
 . conv => lhs; whnf
 . conv => lhs; whnf
 . first | exact bT1 ‹_› | exact bT2 ‹_›
|apply zAY rfl rfl
 . conv => lhs; whnf
 . conv => lhs; whnf
 . first | exact bF1 ‹_› | exact bF2 ‹_›
|apply zAc rfl
 . conv => lhs; whnf
 . conv => lhs; whnf; arg 2; whnf
|apply zAQ rfl
 . conv => lhs; whnf
 . conv => lhs; whnf
 . first | fail
|apply zAD rfl rfl rfl
 . conv => lhs; whnf
 . rfl
 . rfl
 . conv => lhs; whnf; arg 1; whnf
 . conv => lhs; whnf; arg 1; whnf
 . exact ⟨by kernel_rfl,by kernel_rfl⟩
 . rfl
|apply zAz rfl rfl
 . conv => lhs; whnf
 . first | (conv => lhs; whnf; arg 1; whnf)
 . first | exact fun _ => rfl | (intro _; kernel_rfl)
 . conv => lhs; whnf
 . rfl
 . rfl
 . conv => lhs; whnf; arg 1; whnf
 . conv => lhs; whnf
|apply zAa rfl rfl
 . conv => lhs; whnf
 . first | (conv => lhs; whnf; arg 1; whnf)
|apply zAZ rfl rfl
 . conv => lhs; whnf
 . first | (conv => lhs; whnf; arg 1; whnf)
 . conv => lhs; whnf; arg 1; whnf
 . rfl
 . rfl
|apply zAS rfl rfl
 . conv => lhs; whnf
 . first | (conv => lhs; whnf; arg 1; whnf)
 . first | exact fun _ => rfl | (intro _; kernel_rfl)
 . conv => lhs; whnf
 . conv => lhs; whnf
|apply zy rfl
 . conv => lhs; whnf
 . conv => lhs; whnf
 . first | rfl | assumption
 . conv => lhs; whnf; arg 2; whnf
|apply zt rfl
 . conv => lhs; whnf
 . conv => lhs; whnf
 . first | rfl | assumption
 . conv => lhs; whnf
 . first | fail
|apply zA1 rfl
 . conv => lhs; whnf
 . conv => lhs; whnf
 . first | rfl | assumption
|apply zAE rfl
 . conv => lhs; whnf
 . conv => lhs; whnf
 . conv => lhs; whnf; arg 2; whnf
|apply zAA rfl
 . conv => lhs; whnf
 . conv => lhs; whnf
 . conv => lhs; whnf
 . first | fail
|exact zX
|exact ze
|exact all_nil
|show List.all _ _ = true; rfl
|show zAB _ _ = true; rfl
|exact ([] : List Nat)
|exact (1000000 : Nat)
|apply zN
 . conv => lhs; whnf; arg 1; arg 1; whnf
|apply zO
 . conv => lhs; whnf; arg 1; arg 1; whnf
|refine zW (by conv => lhs; whnf) ?_ ?_ <;> intro hb
|refine zn ?_
|refine zb ?_
|refine zH ?_
|refine zL ?_
|refine zG ?_
|refine zD rfl ?_
|refine zF rfl ?_
|refine zE ?_
|refine zJ ?_
|refine zC ?_
|refine zK ?_
|refine z8 ?_
|refine zI ?_
|refine ⟨_,by conv => lhs; whnf; arg 2; whnf,?_⟩; conv => rhs; whnf
|exact trivial
|intro hg)
 have f0 : decide ((i : Int) < (l.length : Nat)) = true:=decide_eq_true (by omega)
 obtain ⟨j,rfl⟩ : ∃ q,j = q + 1:=⟨j - 1,by omega⟩
 have hfi:=hf i hi
 have hpp : zB0 on (gD l i) = (((gD l i).f 1).s.toList == on.toList && ((gD l i).f 5).s.toList == (⟨#[]⟩ : ByteArray).toList):=by unfold zB0; rw [zGu]
 have htx:=txtP_ac E0 ((gD l i).f 5).s
 rcases h1 : ((gD l i).f 1).s.toList == on.toList with _ | _ <;> rcases h2 : ((gD l i).f 5).s.toList == (⟨#[]⟩ : ByteArray).toList with _ | _
 all_goals
  have g1:=h1
  have g2:=h2
  rw [h1,h2] at hpp
 rotate_left 3
 . have g1:=zB7 h1
   rw [zBy hi hpp] at hR
   repeat' (first
|apply zA2 [f (gD l i)] rfl rfl
 . conv => lhs; whnf
 . first | exact zU | (conv => lhs; whnf; arg 1; whnf)
 . rfl
 . rfl
 . repeat' (first | exact trivial | apply And.intro | rfl)
|apply s_wanted_pick_t rfl rfl rfl
 . conv => lhs; whnf
 . first | rfl | assumption
 . conv => lhs; whnf
 . first | exact bT1 ‹_› | exact bT2 ‹_› | rfl
|apply zAL rfl rfl rfl
 . conv => lhs; whnf
 . first | rfl | assumption
 . conv => lhs; whnf
 . first | exact bT1 ‹_› | exact bT2 ‹_› | rfl
|apply s_wanted_pick_f rfl rfl rfl
 . conv => lhs; whnf
 . first | rfl | assumption
 . conv => lhs; whnf
 . first | exact bF1 ‹_› | exact bF2 ‹_› | rfl
|apply zAM rfl rfl rfl
 . conv => lhs; whnf
 . first | rfl | assumption
 . conv => lhs; whnf
 . first | exact bF1 ‹_› | exact bF2 ‹_› | rfl
|apply zT
 . conv => lhs; whnf
 . assumption
|apply zQ
 . conv => lhs; whnf
 . assumption
|refine zj ?_
|refine za ?_
|refine zAb ?_
|refine zB ?_
|refine zM ?_
|refine zk ?_
|refine zV ?_
|refine zd ?_
|apply aw_1
 conv => whnf
 refine ⟨?_,trivial⟩
|apply zp rfl rfl
 . conv => lhs; whnf
 . conv => lhs; whnf
 . first | exact bT1 ‹_› | exact bT2 ‹_›
|apply zo rfl rfl
 . conv => lhs; whnf
 . conv => lhs; whnf
 . first | exact bF1 ‹_› | exact bF2 ‹_›
|apply s_1
 conv => whnf; arg 1; arg 4; arg 3; whnf
 refine ⟨?_,?_⟩
|apply z7 rfl
 . conv => lhs; whnf
 . conv => lhs; whnf; arg 2; whnf
|apply zl rfl
 . conv => lhs; whnf
 . conv => lhs; whnf
 . first | exact hfi
|apply zr rfl rfl rfl rfl
 . conv => lhs; whnf; arg 1; whnf
 . rfl
|apply zq rfl rfl rfl
 . conv => lhs; whnf
 . conv => lhs; whnf; arg 1; whnf
 . conv => lhs; whnf; arg 1; whnf
 . exact ⟨by kernel_rfl,by kernel_rfl⟩
 . rfl
|apply zAu rfl rfl
 . conv => lhs; whnf
 . first | exact zU | (conv => lhs; whnf; arg 1; whnf)
 . first | exact fun _ => rfl | (intro _; kernel_rfl)
 . conv => lhs; whnf
 . conv => lhs; whnf; arg 1; whnf
 . conv => lhs; whnf
|apply zx rfl rfl rfl rfl
 . first | exact zU | (conv => lhs; whnf; arg 1; whnf)
 . first | exact fun _ => rfl | (intro _; kernel_rfl)
 . conv => lhs; whnf
 . conv => lhs; whnf
|apply zAU rfl rfl
 . conv => lhs; whnf
 . first | exact zU | (conv => lhs; whnf; arg 1; whnf)
|apply zAT rfl rfl
 . conv => lhs; whnf
 . first | exact zU | (conv => lhs; whnf; arg 1; whnf)
 . conv => lhs; whnf; arg 1; whnf
 . rfl
 . rfl
|apply zAO rfl rfl
 . conv => lhs; whnf
 . first | exact zU | (conv => lhs; whnf; arg 1; whnf)
 . first | exact fun _ => rfl | (intro _; kernel_rfl)
 . conv => lhs; whnf
 . conv => lhs; whnf
|apply zS rfl
 . conv => lhs; whnf
 . conv => lhs; whnf
 . first | rfl | assumption
 . conv => lhs; whnf; arg 2; whnf
|apply zR rfl
 . conv => lhs; whnf
 . conv => lhs; whnf
 . first | rfl | assumption
 . conv => lhs; whnf
 . first | exact hfi
|apply zAI rfl
 . conv => lhs; whnf
 . conv => lhs; whnf
 . first | rfl | assumption
|apply zAy rfl
 . conv => lhs; whnf
 . rfl
 . rfl
|apply zf rfl
 . conv => lhs; whnf
 . conv => lhs; whnf
 . conv => lhs; whnf; arg 2; whnf
|apply zu rfl
 . conv => lhs; whnf
 . conv => lhs; whnf
 . conv => lhs; whnf
 . first | exact hfi
|apply zm rfl
 . conv => lhs; whnf
 . conv => lhs; whnf
 . conv => lhs; whnf; arg 2; whnf
|apply zi rfl
 . conv => lhs; whnf
 . conv => lhs; whnf
 . conv => lhs; whnf
 . first | exact hfi
|apply zw (by kernel_rfl) (by kernel_rfl)
|apply zAd
|apply zAg rfl rfl
 . conv => lhs; whnf
 . conv => lhs; whnf
 . first | exact bT1 ‹_› | exact bT2 ‹_›
|apply zAY rfl rfl
 . conv => lhs; whnf
 . conv => lhs; whnf
 . first | exact bF1 ‹_› | exact bF2 ‹_›
|apply zAc rfl
 . conv => lhs; whnf
 . conv => lhs; whnf; arg 2; whnf
|apply zAQ rfl
 . conv => lhs; whnf
 . conv => lhs; whnf
 . first | exact hfi
|apply zAD rfl rfl rfl
 . conv => lhs; whnf
 . rfl
 . rfl
 . conv => lhs; whnf; arg 1; whnf
 . conv => lhs; whnf; arg 1; whnf
 . exact ⟨by kernel_rfl,by kernel_rfl⟩
 . rfl
|apply zAz rfl rfl
 . conv => lhs; whnf
 . first | exact zU | (conv => lhs; whnf; arg 1; whnf)
 . first | exact fun _ => rfl | (intro _; kernel_rfl)
 . conv => lhs; whnf
 . rfl
 . rfl
 . conv => lhs; whnf; arg 1; whnf
 . conv => lhs; whnf
|apply zAa rfl rfl
 . conv => lhs; whnf
 . first | exact zU | (conv => lhs; whnf; arg 1; whnf)
|apply zAZ rfl rfl
 . conv => lhs; whnf
 . first | exact zU | (conv => lhs; whnf; arg 1; whnf)
 . conv => lhs; whnf; arg 1; whnf
 . rfl
 . rfl
|apply zAS rfl rfl
 . conv => lhs; whnf
 . first | exact zU | (conv => lhs; whnf; arg 1; whnf)
 . first | exact fun _ => rfl | (intro _; kernel_rfl)
 . conv => lhs; whnf
 . conv => lhs; whnf
|apply zy rfl
 . conv => lhs; whnf
 . conv => lhs; whnf
 . first | rfl | assumption
 . conv => lhs; whnf; arg 2; whnf
|apply zt rfl
 . conv => lhs; whnf
 . conv => lhs; whnf
 . first | rfl | assumption
 . conv => lhs; whnf
 . first | exact hfi
|apply zA1 rfl
 . conv => lhs; whnf
 . conv => lhs; whnf
 . first | rfl | assumption
|apply zAE rfl
 . conv => lhs; whnf
 . conv => lhs; whnf
 . conv => lhs; whnf; arg 2; whnf
|apply zAA rfl
 . conv => lhs; whnf
 . conv => lhs; whnf
 . conv => lhs; whnf
 . first | exact hfi
|exact zX
|exact ze
|exact all_nil
|show List.all _ _ = true; rfl
|show zAB _ _ = true; rfl
|exact ([] : List Nat)
|exact (1000000 : Nat)
|apply zN
 . conv => lhs; whnf; arg 1; arg 1; whnf
|apply zO
 . conv => lhs; whnf; arg 1; arg 1; whnf
|refine zW (by conv => lhs; whnf) ?_ ?_ <;> intro hb
|refine zn ?_
|refine zb ?_
|refine zH ?_
|refine zL ?_
|refine zG ?_
|refine zD rfl ?_
|refine zF rfl ?_
|refine zE ?_
|refine zJ ?_
|refine zC ?_
|refine zK ?_
|refine z8 ?_
|refine zI ?_
|refine ⟨_,by conv => lhs; whnf; arg 2; whnf,?_⟩; conv => rhs; whnf
|exact trivial
|intro hg)
   all_goals first
    | exact zAN (by omega)
    | exact at31 hi
    | (refine ⟨by simp,?_,?_⟩ <;> simp only [List.length_cons,List.length_nil,maxLen] <;> omega)
    | skip
   refine zY (j':=n - 1) (by omega) ⟨i + 1,acc ++ [f (gD l i)],j,by rw [List.append_assoc]; exact hR,by omega,by omega,by rw [List.length_append]; simp only [List.length_cons,List.length_nil]; omega,Sub.live ⟨rfl,rfl,rfl,rfl,trivial⟩ ⟨?_,trivial⟩⟩
   rw [List.length_append]; rfl
 all_goals
  rw [zC2 hi hpp] at hR
  have hgp:=zHv (f:=f) (l:=l) (i:=i) hi
  have hgi:=zG4 (f:=f) (l:=l) (p:=gD l i) (k:=l.length) (i:=i) (by omega)
  generalize hG : grpI f l (gD l i) l.length i = G at *
 let bb:=true
 have hd : (!((gD l i).f 5).s.toList == (⟨#[]⟩ : ByteArray).toList) = true:=by rw [h2]; rfl
 rw [zDM (b:=bb) G (by rw [h2]; rfl)] at hR
 have g1:=zDi h1
 rotate_left 1
 let bb:=false
 have hd : (!((gD l i).f 5).s.toList == (⟨#[]⟩ : ByteArray).toList) = false:=by rw [h2]; rfl
 rw [zDM (b:=bb) G (by rw [h2]; rfl)] at hR
 have g1:=zDi h1
 rotate_left 1
 let bb:=true
 have hd : (!((gD l i).f 5).s.toList == (⟨#[]⟩ : ByteArray).toList) = true:=by rw [h2]; rfl
 rw [zDM (b:=bb) G (by rw [h2]; rfl)] at hR
 have g1:=zB7 h1
 rotate_left 1
 all_goals
  repeat' (first
|apply zAo ((.agg (cellsV Tryz.prog 12 68 (sArg ⟨#[108,97,98,101,108]⟩ (vD31 3 0 ((gD l i).f 5).s))))) rfl rfl
 . conv => lhs; whnf; arg 2; whnf
 . repeat' (first | exact VLe.refl _ | exact VLe.nil _ | exact VLe.lit _ _ | exact VLe.own _ _ _ | apply VLe.agg | apply VLeL.cons | exact VLeL.nil)
|apply zAo ((.agg (cellsV Tryz.prog 12 129 (zDe ((gD l i).f 5).s)))) rfl rfl
 . conv => lhs; whnf; arg 2; whnf
 . repeat' (first | exact VLe.refl _ | exact VLe.nil _ | exact VLe.lit _ _ | exact VLe.own _ _ _ | apply VLe.agg | apply VLeL.cons | exact VLeL.nil)
|apply zA2 [sArg ⟨#[108,97,98,101,108]⟩ (vD31 3 0 ((gD l i).f 5).s)] rfl rfl
 . conv => lhs; whnf
 . first | exact zU | (conv => lhs; whnf; arg 1; whnf)
 . rfl
 . rfl
 . repeat' (first | exact trivial | apply And.intro | rfl)
|apply zA2 [zDe ((gD l i).f 5).s] rfl rfl
 . conv => lhs; whnf
 . first | exact zU | (conv => lhs; whnf; arg 1; whnf)
 . rfl
 . rfl
 . repeat' (first | exact trivial | apply And.intro | rfl)
|apply s_wanted_pick_t rfl rfl rfl
 . conv => lhs; whnf
 . first | rfl | assumption
 . conv => lhs; whnf
 . first | exact bT1 ‹_› | exact bT2 ‹_› | rfl
|apply zAL rfl rfl rfl
 . conv => lhs; whnf
 . first | rfl | assumption
 . conv => lhs; whnf
 . first | exact bT1 ‹_› | exact bT2 ‹_› | rfl
|apply s_wanted_pick_f rfl rfl rfl
 . conv => lhs; whnf
 . first | rfl | assumption
 . conv => lhs; whnf
 . first | exact bF1 ‹_› | exact bF2 ‹_› | rfl
|apply zAM rfl rfl rfl
 . conv => lhs; whnf
 . first | rfl | assumption
 . conv => lhs; whnf
 . first | exact bF1 ‹_› | exact bF2 ‹_› | rfl
|apply zT
 . conv => lhs; whnf
 . assumption
|apply zQ
 . conv => lhs; whnf
 . assumption
|refine zj ?_
|refine za ?_
|refine zAb ?_
|refine zB ?_
|refine zM ?_
|refine zk ?_
|refine zV ?_
|refine zd ?_
|apply aw_1
 conv => whnf
 refine ⟨?_,trivial⟩
|apply zp rfl rfl
 . conv => lhs; whnf
 . conv => lhs; whnf
 . first | exact bT1 ‹_› | exact bT2 ‹_›
|apply zo rfl rfl
 . conv => lhs; whnf
 . conv => lhs; whnf
 . first | exact bF1 ‹_› | exact bF2 ‹_›
|apply s_1
 conv => whnf; arg 1; arg 4; arg 3; whnf
 refine ⟨?_,?_⟩
|apply z7 rfl
 . conv => lhs; whnf
 . conv => lhs; whnf; arg 2; whnf
|apply zl rfl
 . conv => lhs; whnf
 . conv => lhs; whnf
 . first | exact htx
|apply zr rfl rfl rfl rfl
 . conv => lhs; whnf; arg 1; whnf
 . rfl
|apply zq rfl rfl rfl
 . conv => lhs; whnf
 . conv => lhs; whnf; arg 1; whnf
 . conv => lhs; whnf; arg 1; whnf
 . exact ⟨by kernel_rfl,by kernel_rfl⟩
 . rfl
|apply zAu rfl rfl
 . conv => lhs; whnf
 . first | exact zU | (conv => lhs; whnf; arg 1; whnf)
 . first | exact fun _ => rfl | (intro _; kernel_rfl)
 . conv => lhs; whnf
 . conv => lhs; whnf; arg 1; whnf
 . conv => lhs; whnf
|apply zx rfl rfl rfl rfl
 . first | exact zU | (conv => lhs; whnf; arg 1; whnf)
 . first | exact fun _ => rfl | (intro _; kernel_rfl)
 . conv => lhs; whnf
 . conv => lhs; whnf
|apply zAU rfl rfl
 . conv => lhs; whnf
 . first | exact zU | (conv => lhs; whnf; arg 1; whnf)
|apply zAT rfl rfl
 . conv => lhs; whnf
 . first | exact zU | (conv => lhs; whnf; arg 1; whnf)
 . conv => lhs; whnf; arg 1; whnf
 . rfl
 . rfl
|apply zAO rfl rfl
 . conv => lhs; whnf
 . first | exact zU | (conv => lhs; whnf; arg 1; whnf)
 . first | exact fun _ => rfl | (intro _; kernel_rfl)
 . conv => lhs; whnf
 . conv => lhs; whnf
|apply zS rfl
 . conv => lhs; whnf
 . conv => lhs; whnf
 . first | rfl | assumption
 . conv => lhs; whnf; arg 2; whnf
|apply zR rfl
 . conv => lhs; whnf
 . conv => lhs; whnf
 . first | rfl | assumption
 . conv => lhs; whnf
 . first | exact htx
|apply zAI rfl
 . conv => lhs; whnf
 . conv => lhs; whnf
 . first | rfl | assumption
|apply zAy rfl
 . conv => lhs; whnf
 . rfl
 . rfl
|apply zf rfl
 . conv => lhs; whnf
 . conv => lhs; whnf
 . conv => lhs; whnf; arg 2; whnf
|apply zu rfl
 . conv => lhs; whnf
 . conv => lhs; whnf
 . conv => lhs; whnf
 . first | exact htx
|apply zm rfl
 . conv => lhs; whnf
 . conv => lhs; whnf
 . conv => lhs; whnf; arg 2; whnf
|apply zi rfl
 . conv => lhs; whnf
 . conv => lhs; whnf
 . conv => lhs; whnf
 . first | exact htx
|apply zw (by kernel_rfl) (by kernel_rfl)
|apply zAd
|apply zAg rfl rfl
 . conv => lhs; whnf
 . conv => lhs; whnf
 . first | exact bT1 ‹_› | exact bT2 ‹_›
|apply zAY rfl rfl
 . conv => lhs; whnf
 . conv => lhs; whnf
 . first | exact bF1 ‹_› | exact bF2 ‹_›
|apply zAc rfl
 . conv => lhs; whnf
 . conv => lhs; whnf; arg 2; whnf
|apply zAQ rfl
 . conv => lhs; whnf
 . conv => lhs; whnf
 . first | exact htx
|apply zAD rfl rfl rfl
 . conv => lhs; whnf
 . rfl
 . rfl
 . conv => lhs; whnf; arg 1; whnf
 . conv => lhs; whnf; arg 1; whnf
 . exact ⟨by kernel_rfl,by kernel_rfl⟩
 . rfl
|apply zAz rfl rfl
 . conv => lhs; whnf
 . first | exact zU | (conv => lhs; whnf; arg 1; whnf)
 . first | exact fun _ => rfl | (intro _; kernel_rfl)
 . conv => lhs; whnf
 . rfl
 . rfl
 . conv => lhs; whnf; arg 1; whnf
 . conv => lhs; whnf
|apply zAa rfl rfl
 . conv => lhs; whnf
 . first | exact zU | (conv => lhs; whnf; arg 1; whnf)
|apply zAZ rfl rfl
 . conv => lhs; whnf
 . first | exact zU | (conv => lhs; whnf; arg 1; whnf)
 . conv => lhs; whnf; arg 1; whnf
 . rfl
 . rfl
|apply zAS rfl rfl
 . conv => lhs; whnf
 . first | exact zU | (conv => lhs; whnf; arg 1; whnf)
 . first | exact fun _ => rfl | (intro _; kernel_rfl)
 . conv => lhs; whnf
 . conv => lhs; whnf
|apply zy rfl
 . conv => lhs; whnf
 . conv => lhs; whnf
 . first | rfl | assumption
 . conv => lhs; whnf; arg 2; whnf
|apply zt rfl
 . conv => lhs; whnf
 . conv => lhs; whnf
 . first | rfl | assumption
 . conv => lhs; whnf
 . first | exact htx
|apply zA1 rfl
 . conv => lhs; whnf
 . conv => lhs; whnf
 . first | rfl | assumption
|apply zAE rfl
 . conv => lhs; whnf
 . conv => lhs; whnf
 . conv => lhs; whnf; arg 2; whnf
|apply zAA rfl
 . conv => lhs; whnf
 . conv => lhs; whnf
 . conv => lhs; whnf
 . first | exact htx
|exact zX
|exact ze
|exact all_nil
|show List.all _ _ = true; rfl
|show zAB _ _ = true; rfl
|exact ([] : List Nat)
|exact (1000000 : Nat)
|apply zN
 . conv => lhs; whnf; arg 1; arg 1; whnf
|apply zO
 . conv => lhs; whnf; arg 1; arg 1; whnf
|refine zW (by conv => lhs; whnf) ?_ ?_ <;> intro hb
|refine zn ?_
|refine zb ?_
|refine zH ?_
|refine zL ?_
|refine zG ?_
|refine zD rfl ?_
|refine zF rfl ?_
|refine zE ?_
|refine zJ ?_
|refine zC ?_
|refine zK ?_
|refine z8 ?_
|refine zI ?_
|refine ⟨_,by conv => lhs; whnf; arg 2; whnf,?_⟩; conv => rhs; whnf
|exact trivial
|intro hg)
  all_goals first
   | exact zAN (by omega)
   | exact at31 hi
   | skip
  refine zAF (Sub.ownF (m:=8) (q:=901) (i:=6) (e:=57) rfl (by decide) rfl rfl rfl) ?_
  refine zAG (fun m st => ∃ i2 g k,g ++ grpI f l (gD l i) k i2 = G /\ m + i2 = l.length /\ l.length <= i2 + k /\ i + g.length = i2 /\ Sub (cx E0 Tryz.prog s w he) st (HSi31 on l acc (gD l i) bb g i2)) (l.length - i) ⟨i,[],l.length,hG,by omega,by omega,rfl,Sub.live ⟨rfl,rfl,rfl,rfl,rfl,rfl,trivial⟩ ⟨rfl,rfl,rfl,rfl,trivial⟩⟩ ?_
  clear hG
  rintro m st2 ⟨i2,g,k,hG,hm,hk,hgl,hs3⟩
  refine zAF hs3 ?_
  clear hs3 htx hd
  have hway : (¬ i2 < l.length) \/ (i2 < l.length /\ (((gD l i2).f 1).s.toList == ((gD l i).f 1).s.toList) = false) \/ (i2 < l.length /\ (((gD l i2).f 1).s.toList == ((gD l i).f 1).s.toList) = true /\ (((gD l i2).f 5).s.toList == ((gD l i).f 5).s.toList) = false) \/ (i2 < l.length /\ (((gD l i2).f 1).s.toList == ((gD l i).f 1).s.toList) = true /\ (((gD l i2).f 5).s.toList == ((gD l i).f 5).s.toList) = true):=by
   by_cases hi2 : i2 < l.length
   . cases q1 : (((gD l i2).f 1).s.toList == ((gD l i).f 1).s.toList) <;> cases q2 : (((gD l i2).f 5).s.toList == ((gD l i).f 5).s.toList)
     . exact .inr (.inl ⟨hi2,rfl⟩)
     . exact .inr (.inl ⟨hi2,rfl⟩)
     . exact .inr (.inr (.inl ⟨hi2,rfl,rfl⟩))
     . exact .inr (.inr (.inr ⟨hi2,rfl,rfl⟩))
   . exact .inl hi2
  rcases hway with hi2 | ⟨hi2,q1⟩ | ⟨hi2,q1,q2⟩ | ⟨hi2,q1,q2⟩
  rotate_left 3
  . have e0 : decide ((i2 : Int) < (l.length : Nat)) = true:=decide_eq_true (by omega)
    have e1:=zB7 e0
    have e2:=zB7 q1
    have e3:=zB7 q2
    obtain ⟨k,rfl⟩ : ∃ q,k = q + 1:=⟨k - 1,by omega⟩
    rw [zFX ⟨hi2,by unfold zBG; rw [q1,q2]; rfl⟩] at hG
    have hf2:=hf i2 hi2
    repeat' (first
|apply zBC 11 ([(1,[8])]) ([(8,[901]),(10,[8])]) rfl (by kernel_rfl) (by kernel_rfl) (by kernel_rfl)
|apply zFa
|apply zFZ rfl
 . conv => lhs; whnf
 . conv => lhs; whnf; arg 2; whnf
|apply zC8 rfl
 . conv => lhs; whnf
 . conv => lhs; whnf
 . first | exact hf2
|apply zFb rfl rfl
 . conv => lhs; whnf
 . first | exact zU | (conv => lhs; whnf; arg 1; whnf)
 . first | exact fun _ => rfl | (intro _; kernel_rfl)
 . conv => lhs; whnf
 . rfl
 . conv => lhs; whnf; arg 1; whnf
 . conv => lhs; whnf
|apply zB3 rfl rfl rfl
 . conv => lhs; whnf
 . rfl
 . conv => lhs; whnf; arg 1; whnf
 . conv => lhs; whnf; arg 1; whnf
 . exact ⟨by kernel_rfl,by kernel_rfl⟩
 . rfl
|show inO _ _ = true; rfl
|apply g_lit [f (gD l i2)] rfl rfl
 . conv => lhs; whnf
 . first | exact zU | (conv => lhs; whnf; arg 1; whnf)
 . rfl
 . rfl
 . repeat' (first | exact trivial | apply And.intro | rfl)
|apply s_wanted_pick_t rfl rfl rfl
 . conv => lhs; whnf
 . first | rfl | assumption
 . conv => lhs; whnf
 . first | exact bT1 ‹_› | exact bT2 ‹_› | rfl
|apply zAL rfl rfl rfl
 . conv => lhs; whnf
 . first | rfl | assumption
 . conv => lhs; whnf
 . first | exact bT1 ‹_› | exact bT2 ‹_› | rfl
|apply s_wanted_pick_f rfl rfl rfl
 . conv => lhs; whnf
 . first | rfl | assumption
 . conv => lhs; whnf
 . first | exact bF1 ‹_› | exact bF2 ‹_› | rfl
|apply zAM rfl rfl rfl
 . conv => lhs; whnf
 . first | rfl | assumption
 . conv => lhs; whnf
 . first | exact bF1 ‹_› | exact bF2 ‹_› | rfl
|apply zT
 . conv => lhs; whnf
 . assumption
|apply zQ
 . conv => lhs; whnf
 . assumption
|refine zj ?_
|refine za ?_
|refine zAb ?_
|refine zB ?_
|refine zM ?_
|refine zk ?_
|refine zV ?_
|refine zd ?_
|apply aw_1
 conv => whnf
 refine ⟨?_,trivial⟩
|apply zp rfl rfl
 . conv => lhs; whnf
 . conv => lhs; whnf
 . first | exact bT1 ‹_› | exact bT2 ‹_›
|apply zo rfl rfl
 . conv => lhs; whnf
 . conv => lhs; whnf
 . first | exact bF1 ‹_› | exact bF2 ‹_›
|apply s_1
 conv => whnf; arg 1; arg 4; arg 3; whnf
 refine ⟨?_,?_⟩
|apply z7 rfl
 . conv => lhs; whnf
 . conv => lhs; whnf; arg 2; whnf
|apply zl rfl
 . conv => lhs; whnf
 . conv => lhs; whnf
 . first | exact hf2
|apply zr rfl rfl rfl rfl
 . conv => lhs; whnf; arg 1; whnf
 . rfl
|apply zq rfl rfl rfl
 . conv => lhs; whnf
 . conv => lhs; whnf; arg 1; whnf
 . conv => lhs; whnf; arg 1; whnf
 . exact ⟨by kernel_rfl,by kernel_rfl⟩
 . rfl
|apply zAu rfl rfl
 . conv => lhs; whnf
 . first | exact zU | (conv => lhs; whnf; arg 1; whnf)
 . first | exact fun _ => rfl | (intro _; kernel_rfl)
 . conv => lhs; whnf
 . conv => lhs; whnf; arg 1; whnf
 . conv => lhs; whnf
|apply zx rfl rfl rfl rfl
 . first | exact zU | (conv => lhs; whnf; arg 1; whnf)
 . first | exact fun _ => rfl | (intro _; kernel_rfl)
 . conv => lhs; whnf
 . conv => lhs; whnf
|apply zAU rfl rfl
 . conv => lhs; whnf
 . first | exact zU | (conv => lhs; whnf; arg 1; whnf)
|apply zAT rfl rfl
 . conv => lhs; whnf
 . first | exact zU | (conv => lhs; whnf; arg 1; whnf)
 . conv => lhs; whnf; arg 1; whnf
 . rfl
 . rfl
|apply zAO rfl rfl
 . conv => lhs; whnf
 . first | exact zU | (conv => lhs; whnf; arg 1; whnf)
 . first | exact fun _ => rfl | (intro _; kernel_rfl)
 . conv => lhs; whnf
 . conv => lhs; whnf
|apply zS rfl
 . conv => lhs; whnf
 . conv => lhs; whnf
 . first | rfl | assumption
 . conv => lhs; whnf; arg 2; whnf
|apply zR rfl
 . conv => lhs; whnf
 . conv => lhs; whnf
 . first | rfl | assumption
 . conv => lhs; whnf
 . first | exact hf2
|apply zAI rfl
 . conv => lhs; whnf
 . conv => lhs; whnf
 . first | rfl | assumption
|apply zAy rfl
 . conv => lhs; whnf
 . rfl
 . rfl
|apply zf rfl
 . conv => lhs; whnf
 . conv => lhs; whnf
 . conv => lhs; whnf; arg 2; whnf
|apply zu rfl
 . conv => lhs; whnf
 . conv => lhs; whnf
 . conv => lhs; whnf
 . first | exact hf2
|apply zm rfl
 . conv => lhs; whnf
 . conv => lhs; whnf
 . conv => lhs; whnf; arg 2; whnf
|apply zi rfl
 . conv => lhs; whnf
 . conv => lhs; whnf
 . conv => lhs; whnf
 . first | exact hf2
|apply zw (by kernel_rfl) (by kernel_rfl)
|apply zAd
|apply zAg rfl rfl
 . conv => lhs; whnf
 . conv => lhs; whnf
 . first | exact bT1 ‹_› | exact bT2 ‹_›
|apply zAY rfl rfl
 . conv => lhs; whnf
 . conv => lhs; whnf
 . first | exact bF1 ‹_› | exact bF2 ‹_›
|apply zAc rfl
 . conv => lhs; whnf
 . conv => lhs; whnf; arg 2; whnf
|apply zAQ rfl
 . conv => lhs; whnf
 . conv => lhs; whnf
 . first | exact hf2
|apply zAD rfl rfl rfl
 . conv => lhs; whnf
 . rfl
 . rfl
 . conv => lhs; whnf; arg 1; whnf
 . conv => lhs; whnf; arg 1; whnf
 . exact ⟨by kernel_rfl,by kernel_rfl⟩
 . rfl
|apply zAz rfl rfl
 . conv => lhs; whnf
 . first | exact zU | (conv => lhs; whnf; arg 1; whnf)
 . first | exact fun _ => rfl | (intro _; kernel_rfl)
 . conv => lhs; whnf
 . rfl
 . rfl
 . conv => lhs; whnf; arg 1; whnf
 . conv => lhs; whnf
|apply zAa rfl rfl
 . conv => lhs; whnf
 . first | exact zU | (conv => lhs; whnf; arg 1; whnf)
|apply zAZ rfl rfl
 . conv => lhs; whnf
 . first | exact zU | (conv => lhs; whnf; arg 1; whnf)
 . conv => lhs; whnf; arg 1; whnf
 . rfl
 . rfl
|apply zAS rfl rfl
 . conv => lhs; whnf
 . first | exact zU | (conv => lhs; whnf; arg 1; whnf)
 . first | exact fun _ => rfl | (intro _; kernel_rfl)
 . conv => lhs; whnf
 . conv => lhs; whnf
|apply zy rfl
 . conv => lhs; whnf
 . conv => lhs; whnf
 . first | rfl | assumption
 . conv => lhs; whnf; arg 2; whnf
|apply zt rfl
 . conv => lhs; whnf
 . conv => lhs; whnf
 . first | rfl | assumption
 . conv => lhs; whnf
 . first | exact hf2
|apply zA1 rfl
 . conv => lhs; whnf
 . conv => lhs; whnf
 . first | rfl | assumption
|apply zAE rfl
 . conv => lhs; whnf
 . conv => lhs; whnf
 . conv => lhs; whnf; arg 2; whnf
|apply zAA rfl
 . conv => lhs; whnf
 . conv => lhs; whnf
 . conv => lhs; whnf
 . first | exact hf2
|exact zX
|exact ze
|exact all_nil
|show List.all _ _ = true; rfl
|show zAB _ _ = true; rfl
|exact ([] : List Nat)
|exact (1000000 : Nat)
|apply zN
 . conv => lhs; whnf; arg 1; arg 1; whnf
|apply zO
 . conv => lhs; whnf; arg 1; arg 1; whnf
|refine zW (by conv => lhs; whnf) ?_ ?_ <;> intro hb
|refine zn ?_
|refine zb ?_
|refine zH ?_
|refine zL ?_
|refine zG ?_
|refine zD rfl ?_
|refine zF rfl ?_
|refine zE ?_
|refine zJ ?_
|refine zC ?_
|refine zK ?_
|refine z8 ?_
|refine zI ?_
|refine ⟨_,by conv => lhs; whnf; arg 2; whnf,?_⟩; conv => rhs; whnf
|exact trivial
|intro hg)
    all_goals first
     | exact zAN (by omega)
     | exact at31 hi2
     | (refine ⟨by simp,?_,?_⟩ <;> simp only [List.length_cons,List.length_nil,maxLen] <;> omega)
     | skip
    refine zY (j':=m - 1) (by omega) ⟨i2 + 1,g ++ [f (gD l i2)],k,by rw [List.append_assoc]; exact hG,by omega,by omega,by rw [List.length_append]; simp only [List.length_cons,List.length_nil]; omega,Sub.live ⟨rfl,rfl,rfl,rfl,rfl,rfl,trivial⟩ ⟨rfl,rfl,rfl,?_,trivial⟩⟩
    rw [List.length_append]; rfl
  have e0 : decide ((i2 : Int) < (l.length : Nat)) = false:=decide_eq_false (by omega)
  have e1:=zDi e0
  have hno : ¬ (i2 < l.length /\ zBG (gD l i) (gD l i2) = true):=fun h => hi2 h.1
  rotate_left 1
  have e0 : decide ((i2 : Int) < (l.length : Nat)) = true:=decide_eq_true (by omega)
  have e1:=zB7 e0
  have e2:=zDi q1
  have hno : ¬ (i2 < l.length /\ zBG (gD l i) (gD l i2) = true):=fun h => by have:=h.2; unfold zBG at this; rw [q1] at this; cases this
  rotate_left 1
  have e0 : decide ((i2 : Int) < (l.length : Nat)) = true:=decide_eq_true (by omega)
  have e1:=zB7 e0
  have e2:=zB7 q1
  have e3:=zDi q2
  have hno : ¬ (i2 < l.length /\ zBG (gD l i) (gD l i2) = true):=fun h => by have:=h.2; unfold zBG at this; rw [q1,q2] at this; cases this
  rotate_left 1
  all_goals
   rw [zFY hno,List.append_nil] at hG
   subst hG
   repeat' (first
|apply zAo ((.agg (cellsV Tryz.prog 12 57 (inlB bb (gD l i) g)))) rfl rfl
 . conv => lhs; whnf; arg 2; whnf
 . repeat' (first | exact VLe.refl _ | exact VLe.nil _ | exact VLe.lit _ _ | exact VLe.own _ _ _ | apply VLe.agg | apply VLeL.cons | exact VLeL.nil)
|apply zA2 [inlB bb (gD l i) g] rfl rfl
 . conv => lhs; whnf
 . first | exact zU | (conv => lhs; whnf; arg 1; whnf)
 . rfl
 . rfl
 . repeat' (first | exact trivial | apply And.intro | rfl)
|apply s_wanted_pick_t rfl rfl rfl
 . conv => lhs; whnf
 . first | rfl | assumption
 . conv => lhs; whnf
 . first | exact bT1 ‹_› | exact bT2 ‹_› | rfl
|apply zAL rfl rfl rfl
 . conv => lhs; whnf
 . first | rfl | assumption
 . conv => lhs; whnf
 . first | exact bT1 ‹_› | exact bT2 ‹_› | rfl
|apply s_wanted_pick_f rfl rfl rfl
 . conv => lhs; whnf
 . first | rfl | assumption
 . conv => lhs; whnf
 . first | exact bF1 ‹_› | exact bF2 ‹_› | rfl
|apply zAM rfl rfl rfl
 . conv => lhs; whnf
 . first | rfl | assumption
 . conv => lhs; whnf
 . first | exact bF1 ‹_› | exact bF2 ‹_› | rfl
|apply zT
 . conv => lhs; whnf
 . assumption
|apply zQ
 . conv => lhs; whnf
 . assumption
|refine zj ?_
|refine za ?_
|refine zAb ?_
|refine zB ?_
|refine zM ?_
|refine zk ?_
|refine zV ?_
|refine zd ?_
|apply aw_1
 conv => whnf
 refine ⟨?_,trivial⟩
|apply zp rfl rfl
 . conv => lhs; whnf
 . conv => lhs; whnf
 . first | exact bT1 ‹_› | exact bT2 ‹_›
|apply zo rfl rfl
 . conv => lhs; whnf
 . conv => lhs; whnf
 . first | exact bF1 ‹_› | exact bF2 ‹_›
|apply s_1
 conv => whnf; arg 1; arg 4; arg 3; whnf
 refine ⟨?_,?_⟩
|apply z7 rfl
 . conv => lhs; whnf
 . conv => lhs; whnf; arg 2; whnf
|apply zl rfl
 . conv => lhs; whnf
 . conv => lhs; whnf
 . first | fail
|apply zr rfl rfl rfl rfl
 . conv => lhs; whnf; arg 1; whnf
 . rfl
|apply zq rfl rfl rfl
 . conv => lhs; whnf
 . conv => lhs; whnf; arg 1; whnf
 . conv => lhs; whnf; arg 1; whnf
 . exact ⟨by kernel_rfl,by kernel_rfl⟩
 . rfl
|apply zAu rfl rfl
 . conv => lhs; whnf
 . first | exact zU | (conv => lhs; whnf; arg 1; whnf)
 . first | exact fun _ => rfl | (intro _; kernel_rfl)
 . conv => lhs; whnf
 . conv => lhs; whnf; arg 1; whnf
 . conv => lhs; whnf
|apply zx rfl rfl rfl rfl
 . first | exact zU | (conv => lhs; whnf; arg 1; whnf)
 . first | exact fun _ => rfl | (intro _; kernel_rfl)
 . conv => lhs; whnf
 . conv => lhs; whnf
|apply zAU rfl rfl
 . conv => lhs; whnf
 . first | exact zU | (conv => lhs; whnf; arg 1; whnf)
|apply zAT rfl rfl
 . conv => lhs; whnf
 . first | exact zU | (conv => lhs; whnf; arg 1; whnf)
 . conv => lhs; whnf; arg 1; whnf
 . rfl
 . rfl
|apply zAO rfl rfl
 . conv => lhs; whnf
 . first | exact zU | (conv => lhs; whnf; arg 1; whnf)
 . first | exact fun _ => rfl | (intro _; kernel_rfl)
 . conv => lhs; whnf
 . conv => lhs; whnf
|apply zS rfl
 . conv => lhs; whnf
 . conv => lhs; whnf
 . first | rfl | assumption
 . conv => lhs; whnf; arg 2; whnf
|apply zR rfl
 . conv => lhs; whnf
 . conv => lhs; whnf
 . first | rfl | assumption
 . conv => lhs; whnf
 . first | fail
|apply zAI rfl
 . conv => lhs; whnf
 . conv => lhs; whnf
 . first | rfl | assumption
|apply zAy rfl
 . conv => lhs; whnf
 . rfl
 . rfl
|apply zf rfl
 . conv => lhs; whnf
 . conv => lhs; whnf
 . conv => lhs; whnf; arg 2; whnf
|apply zu rfl
 . conv => lhs; whnf
 . conv => lhs; whnf
 . conv => lhs; whnf
 . first | fail
|apply zm rfl
 . conv => lhs; whnf
 . conv => lhs; whnf
 . conv => lhs; whnf; arg 2; whnf
|apply zi rfl
 . conv => lhs; whnf
 . conv => lhs; whnf
 . conv => lhs; whnf
 . first | fail
|apply zw (by kernel_rfl) (by kernel_rfl)
|apply zAd
|apply zAg rfl rfl
 . conv => lhs; whnf
 . conv => lhs; whnf
 . first | exact bT1 ‹_› | exact bT2 ‹_›
|apply zAY rfl rfl
 . conv => lhs; whnf
 . conv => lhs; whnf
 . first | exact bF1 ‹_› | exact bF2 ‹_›
|apply zAc rfl
 . conv => lhs; whnf
 . conv => lhs; whnf; arg 2; whnf
|apply zAQ rfl
 . conv => lhs; whnf
 . conv => lhs; whnf
 . first | fail
|apply zAD rfl rfl rfl
 . conv => lhs; whnf
 . rfl
 . rfl
 . conv => lhs; whnf; arg 1; whnf
 . conv => lhs; whnf; arg 1; whnf
 . exact ⟨by kernel_rfl,by kernel_rfl⟩
 . rfl
|apply zAz rfl rfl
 . conv => lhs; whnf
 . first | exact zU | (conv => lhs; whnf; arg 1; whnf)
 . first | exact fun _ => rfl | (intro _; kernel_rfl)
 . conv => lhs; whnf
 . rfl
 . rfl
 . conv => lhs; whnf; arg 1; whnf
 . conv => lhs; whnf
|apply zAa rfl rfl
 . conv => lhs; whnf
 . first | exact zU | (conv => lhs; whnf; arg 1; whnf)
|apply zAZ rfl rfl
 . conv => lhs; whnf
 . first | exact zU | (conv => lhs; whnf; arg 1; whnf)
 . conv => lhs; whnf; arg 1; whnf
 . rfl
 . rfl
|apply zAS rfl rfl
 . conv => lhs; whnf
 . first | exact zU | (conv => lhs; whnf; arg 1; whnf)
 . first | exact fun _ => rfl | (intro _; kernel_rfl)
 . conv => lhs; whnf
 . conv => lhs; whnf
|apply zy rfl
 . conv => lhs; whnf
 . conv => lhs; whnf
 . first | rfl | assumption
 . conv => lhs; whnf; arg 2; whnf
|apply zt rfl
 . conv => lhs; whnf
 . conv => lhs; whnf
 . first | rfl | assumption
 . conv => lhs; whnf
 . first | fail
|apply zA1 rfl
 . conv => lhs; whnf
 . conv => lhs; whnf
 . first | rfl | assumption
|apply zAE rfl
 . conv => lhs; whnf
 . conv => lhs; whnf
 . conv => lhs; whnf; arg 2; whnf
|apply zAA rfl
 . conv => lhs; whnf
 . conv => lhs; whnf
 . conv => lhs; whnf
 . first | fail
|exact zX
|exact ze
|exact all_nil
|show List.all _ _ = true; rfl
|show zAB _ _ = true; rfl
|exact ([] : List Nat)
|exact (1000000 : Nat)
|apply zN
 . conv => lhs; whnf; arg 1; arg 1; whnf
|apply zO
 . conv => lhs; whnf; arg 1; arg 1; whnf
|refine zW (by conv => lhs; whnf) ?_ ?_ <;> intro hb
|refine zn ?_
|refine zb ?_
|refine zH ?_
|refine zL ?_
|refine zG ?_
|refine zD rfl ?_
|refine zF rfl ?_
|refine zE ?_
|refine zJ ?_
|refine zC ?_
|refine zK ?_
|refine z8 ?_
|refine zI ?_
|refine ⟨_,by conv => lhs; whnf; arg 2; whnf,?_⟩; conv => rhs; whnf
|exact trivial
|intro hg)
   all_goals first
    | exact zAN (by omega)
    | exact at31 hi2
    | (refine ⟨by simp,?_,?_⟩ <;> simp only [List.length_cons,List.length_nil,maxLen] <;> omega)
    | skip
   refine zY (j':=n - g.length) (by omega) ⟨i2,acc ++ [inlB bb (gD l i) g],j,by rw [<- hgl,List.append_assoc]; exact hR,by omega,by omega,by rw [List.length_append]; simp only [List.length_cons,List.length_nil]; omega,Sub.live ⟨rfl,rfl,rfl,rfl,trivial⟩ ⟨?_,trivial⟩⟩
   rw [List.length_append]; rfl
theorem zEj (E0 : Ge) : ∀ (k : Nat) (l : List D) (on : ByteArray),CpP k l -> AC E0 Tryz.prog 66 [.sl 82 l,.c (.string on)] (.sl 57 (pkS k on l))
 | 0,l,on,h => by
   have h : l = []:=h
   subst h
   exact zEi E0 (fun d => d) on [] (by simp) fun i hi => absurd hi (Nat.not_lt_zero i)
 | k + 1,l,on,h => zEi E0 (zCH (pkS k)) on l h.1 fun i hi => fieldP_ac E0 (pkS k) (gD l i) (h.2 i hi).1 (zEj E0 k _ _ (h.2 i hi).2)
theorem fdrV_le (sub : ByteArray -> List D -> List D) (p : D) (h0 : (p.f 7).l = [] -> sub ((p.f 4).f 0).s (p.f 7).l = []) : VLe (fdrV sub p) (.agg (cellsV Tryz.prog 12 57 (zCH sub p))):=by
 have e : cellsV Tryz.prog 12 57 (zCH sub p) = [.c (.int .i64 1),.c (.string (if (p.f 0).s.toList == (p.f 2).s.toList then ⟨#[]⟩ else (p.f 0).s)),.c (.string (p.f 2).s),.c (.string ⟨#[]⟩),.sl 68 (p.f 3).l,.sl 129 (if (p.f 6).n = -1 then [] else [zBX (p.f 6).n]),.sl 57 (sub ((p.f 4).f 0).s (p.f 7).l)]:=rfl
 rw [e]
 unfold fdrV
 by_cases hn : (p.f 6).n = -1 <;> by_cases hl : 0 < (p.f 7).l.length
 . rw [if_pos hn,if_pos hn,if_pos hl]
   exact .agg (.cons (.refl _) (.cons (.refl _) (.cons (.refl _) (.cons (.refl _) (.cons (.refl _) (.cons (.nil _) (.cons (.refl _) .nil)))))))
 . rw [if_pos hn,if_pos hn,if_neg hl,h0 (List.length_eq_zero_iff.1 (by omega))]
   exact .agg (.cons (.refl _) (.cons (.refl _) (.cons (.refl _) (.cons (.refl _) (.cons (.refl _) (.cons (.nil _) (.cons (.nil _) .nil)))))))
 . rw [if_neg hn,if_neg hn,if_pos hl]
   exact .agg (.cons (.refl _) (.cons (.refl _) (.cons (.refl _) (.cons (.refl _) (.cons (.refl _) (.cons (.refl _) (.cons (.refl _) .nil)))))))
 . rw [if_neg hn,if_neg hn,if_neg hl,h0 (List.length_eq_zero_iff.1 (by omega))]
   exact .agg (.cons (.refl _) (.cons (.refl _) (.cons (.refl _) (.cons (.refl _) (.cons (.refl _) (.cons (.refl _) (.cons (.nil _) .nil)))))))
noncomputable def HRo31 (on : ByteArray) (l acc : List D) (i : Nat) : Vst 113:=
 stS 113 [(0,.c (.string on)),(1,.sl 82 l),(5,.own 5 57 acc),(6,.c (.int .i64 (i : Int)))] [(5,.tok 57 acc.length)]
noncomputable def HRi31 (on : ByteArray) (l acc : List D) (p : D) (b : Bool) (g : List D) (i i2 : Nat) : Vst 113:=
 stS 113 [(0,.c (.string on)),(1,.sl 82 l),(5,.own 5 57 acc),(6,.c (.int .i64 (i2 : Int))),(8,.bx 8 0),(9,.c (.int .i64 (i : Int)))]
  [(5,.tok 57 acc.length),(8,.box 57 (inlV p b g)),(901,.tok 57 g.length)]
theorem zEg (E0 : Ge) (f : D -> D) (on : ByteArray) (l : List D) (hl : l.length <= 60)
 (hf : ∀ i,i < l.length -> AC E0 Tryz.prog 106 [.agg (cellsV Tryz.prog 12 82 (gD l i))] (.agg (cellsV Tryz.prog 12 57 (f (gD l i))))) :
 AC E0 Tryz.prog 71 [.c (.string on),.sl 82 l] (.sl 57 (selsI f on l l.length 0)):=by
 generalize hR : selsI f on l l.length 0 = R
 refine zh 113 Tryz.func71 rfl rfl rfl rfl ?_
 intro s w he
 repeat' (first
|refine zB ?_
|refine zM ?_
|refine zk ?_
|refine zV ?_
|refine zd ?_
|apply aw_1
 conv => whnf
 refine ⟨?_,trivial⟩
|apply zp rfl rfl
 . conv => lhs; whnf
 . conv => lhs; whnf
 . first | exact bT1 ‹_› | exact bT2 ‹_›
|apply zo rfl rfl
 . conv => lhs; whnf
 . conv => lhs; whnf
 . first | exact bF1 ‹_› | exact bF2 ‹_›
|apply s_1
 conv => whnf; arg 1; arg 4; arg 3; whnf
 refine ⟨?_,?_⟩
|apply z7 rfl
 . conv => lhs; whnf
 . conv => lhs; whnf; arg 2; whnf
|apply zl rfl
 . conv => lhs; whnf
 . conv => lhs; whnf
 . first | fail
|apply zr rfl rfl rfl rfl
 . conv => lhs; whnf; arg 1; whnf
 . rfl
|apply zq rfl rfl rfl
 . conv => lhs; whnf
 . conv => lhs; whnf; arg 1; whnf
 . conv => lhs; whnf; arg 1; whnf
 . exact ⟨by kernel_rfl,by kernel_rfl⟩
 . rfl
|apply zAu rfl rfl
 . conv => lhs; whnf
 . first | (conv => lhs; whnf; arg 1; whnf)
 . first | exact fun _ => rfl | (intro _; kernel_rfl)
 . conv => lhs; whnf
 . conv => lhs; whnf; arg 1; whnf
 . conv => lhs; whnf
|apply zx rfl rfl rfl rfl
 . first | (conv => lhs; whnf; arg 1; whnf)
 . first | exact fun _ => rfl | (intro _; kernel_rfl)
 . conv => lhs; whnf
 . conv => lhs; whnf
|apply zAU rfl rfl
 . conv => lhs; whnf
 . first | (conv => lhs; whnf; arg 1; whnf)
|apply zAT rfl rfl
 . conv => lhs; whnf
 . first | (conv => lhs; whnf; arg 1; whnf)
 . conv => lhs; whnf; arg 1; whnf
 . rfl
 . rfl
|apply zAO rfl rfl
 . conv => lhs; whnf
 . first | (conv => lhs; whnf; arg 1; whnf)
 . first | exact fun _ => rfl | (intro _; kernel_rfl)
 . conv => lhs; whnf
 . conv => lhs; whnf
|apply zS rfl
 . conv => lhs; whnf
 . conv => lhs; whnf
 . first | rfl | assumption
 . conv => lhs; whnf; arg 2; whnf
|apply zR rfl
 . conv => lhs; whnf
 . conv => lhs; whnf
 . first | rfl | assumption
 . conv => lhs; whnf
 . first | fail
|apply zA6 rfl
 . conv => lhs; whnf
 . conv => lhs; whnf
 . first | rfl | assumption
|apply zm rfl
 . conv => lhs; whnf
 . conv => lhs; whnf
 . conv => lhs; whnf; arg 2; whnf
|apply zi rfl
 . conv => lhs; whnf
 . conv => lhs; whnf
 . conv => lhs; whnf
 . first | fail
|apply zw (by kernel_rfl) (by kernel_rfl)
|apply zAd
|apply zAg rfl rfl
 . conv => lhs; whnf
 . conv => lhs; whnf
 . first | exact bT1 ‹_› | exact bT2 ‹_›
|apply zAY rfl rfl
 . conv => lhs; whnf
 . conv => lhs; whnf
 . first | exact bF1 ‹_› | exact bF2 ‹_›
|apply zAc rfl
 . conv => lhs; whnf
 . conv => lhs; whnf; arg 2; whnf
|apply zAQ rfl
 . conv => lhs; whnf
 . conv => lhs; whnf
 . first | fail
|apply zAD rfl rfl rfl
 . conv => lhs; whnf
 . rfl
 . rfl
 . conv => lhs; whnf; arg 1; whnf
 . conv => lhs; whnf; arg 1; whnf
 . exact ⟨by kernel_rfl,by kernel_rfl⟩
 . rfl
|apply zAz rfl rfl
 . conv => lhs; whnf
 . first | (conv => lhs; whnf; arg 1; whnf)
 . first | exact fun _ => rfl | (intro _; kernel_rfl)
 . conv => lhs; whnf
 . rfl
 . rfl
 . conv => lhs; whnf; arg 1; whnf
 . conv => lhs; whnf
|apply zAa rfl rfl
 . conv => lhs; whnf
 . first | (conv => lhs; whnf; arg 1; whnf)
|apply zAZ rfl rfl
 . conv => lhs; whnf
 . first | (conv => lhs; whnf; arg 1; whnf)
 . conv => lhs; whnf; arg 1; whnf
 . rfl
 . rfl
|apply zAS rfl rfl
 . conv => lhs; whnf
 . first | (conv => lhs; whnf; arg 1; whnf)
 . first | exact fun _ => rfl | (intro _; kernel_rfl)
 . conv => lhs; whnf
 . conv => lhs; whnf
|apply zy rfl
 . conv => lhs; whnf
 . conv => lhs; whnf
 . first | rfl | assumption
 . conv => lhs; whnf; arg 2; whnf
|apply zt rfl
 . conv => lhs; whnf
 . conv => lhs; whnf
 . first | rfl | assumption
 . conv => lhs; whnf
 . first | fail
|apply zA1 rfl
 . conv => lhs; whnf
 . conv => lhs; whnf
 . first | rfl | assumption
|apply zAE rfl
 . conv => lhs; whnf
 . conv => lhs; whnf
 . conv => lhs; whnf; arg 2; whnf
|apply zAA rfl
 . conv => lhs; whnf
 . conv => lhs; whnf
 . conv => lhs; whnf
 . first | fail
|exact zX
|exact ze
|exact all_nil
|show List.all _ _ = true; rfl
|show zAB _ _ = true; rfl
|exact ([] : List Nat)
|exact (1000000 : Nat)
|apply zN
 . conv => lhs; whnf; arg 1; arg 1; whnf
|apply zO
 . conv => lhs; whnf; arg 1; arg 1; whnf
|refine zW (by conv => lhs; whnf) ?_ ?_ <;> intro hb
|refine zn ?_
|refine zb ?_
|refine zH ?_
|refine zL ?_
|refine zG ?_
|refine zD rfl ?_
|refine zF rfl ?_
|refine zE ?_
|refine zJ ?_
|refine zC ?_
|refine zK ?_
|refine z8 ?_
|refine zI ?_
|refine ⟨_,by conv => lhs; whnf; arg 2; whnf,?_⟩; conv => rhs; whnf
|exact trivial
|intro hg)
 refine zAF (Sub.own (t:=5) (e:=57) rfl rfl) ?_
 refine zAG (fun n st => ∃ i acc j,acc ++ selsI f on l j i = R /\ n + i = l.length /\ l.length <= i + j /\ acc.length <= i /\ Sub (cx E0 Tryz.prog s w he) st (HRo31 on l acc i)) l.length ⟨0,[],l.length,hR,by omega,by omega,Nat.le_refl _,Sub.live ⟨rfl,rfl,rfl,rfl,trivial⟩ ⟨rfl,trivial⟩⟩ ?_
 clear hR
 rintro n st ⟨i,acc,j,hR,hn,hj,hac,hs2⟩
 refine zAF hs2 ?_
 clear hs2
 by_cases hi : i < l.length
 rotate_left 1
 . have f0 : decide ((i : Int) < (l.length : Nat)) = false:=decide_eq_false (by omega)
   rw [zC3 hi,List.append_nil] at hR
   subst hR
   repeat' (first
|apply zT
 . conv => lhs; whnf
 . assumption
|apply zQ
 . conv => lhs; whnf
 . assumption
|refine zj ?_
|refine za ?_
|refine zAb ?_
|refine zB ?_
|refine zM ?_
|refine zk ?_
|refine zV ?_
|refine zd ?_
|apply aw_1
 conv => whnf
 refine ⟨?_,trivial⟩
|apply zp rfl rfl
 . conv => lhs; whnf
 . conv => lhs; whnf
 . first | exact bT1 ‹_› | exact bT2 ‹_›
|apply zo rfl rfl
 . conv => lhs; whnf
 . conv => lhs; whnf
 . first | exact bF1 ‹_› | exact bF2 ‹_›
|apply s_1
 conv => whnf; arg 1; arg 4; arg 3; whnf
 refine ⟨?_,?_⟩
|apply z7 rfl
 . conv => lhs; whnf
 . conv => lhs; whnf; arg 2; whnf
|apply zl rfl
 . conv => lhs; whnf
 . conv => lhs; whnf
 . first | fail
|apply zr rfl rfl rfl rfl
 . conv => lhs; whnf; arg 1; whnf
 . rfl
|apply zq rfl rfl rfl
 . conv => lhs; whnf
 . conv => lhs; whnf; arg 1; whnf
 . conv => lhs; whnf; arg 1; whnf
 . exact ⟨by kernel_rfl,by kernel_rfl⟩
 . rfl
|apply zAu rfl rfl
 . conv => lhs; whnf
 . first | (conv => lhs; whnf; arg 1; whnf)
 . first | exact fun _ => rfl | (intro _; kernel_rfl)
 . conv => lhs; whnf
 . conv => lhs; whnf; arg 1; whnf
 . conv => lhs; whnf
|apply zx rfl rfl rfl rfl
 . first | (conv => lhs; whnf; arg 1; whnf)
 . first | exact fun _ => rfl | (intro _; kernel_rfl)
 . conv => lhs; whnf
 . conv => lhs; whnf
|apply zAU rfl rfl
 . conv => lhs; whnf
 . first | (conv => lhs; whnf; arg 1; whnf)
|apply zAT rfl rfl
 . conv => lhs; whnf
 . first | (conv => lhs; whnf; arg 1; whnf)
 . conv => lhs; whnf; arg 1; whnf
 . rfl
 . rfl
|apply zAO rfl rfl
 . conv => lhs; whnf
 . first | (conv => lhs; whnf; arg 1; whnf)
 . first | exact fun _ => rfl | (intro _; kernel_rfl)
 . conv => lhs; whnf
 . conv => lhs; whnf
|apply zS rfl
 . conv => lhs; whnf
 . conv => lhs; whnf
 . first | rfl | assumption
 . conv => lhs; whnf; arg 2; whnf
|apply zR rfl
 . conv => lhs; whnf
 . conv => lhs; whnf
 . first | rfl | assumption
 . conv => lhs; whnf
 . first | fail
|apply zA6 rfl
 . conv => lhs; whnf
 . conv => lhs; whnf
 . first | rfl | assumption
|apply zm rfl
 . conv => lhs; whnf
 . conv => lhs; whnf
 . conv => lhs; whnf; arg 2; whnf
|apply zi rfl
 . conv => lhs; whnf
 . conv => lhs; whnf
 . conv => lhs; whnf
 . first | fail
|apply zw (by kernel_rfl) (by kernel_rfl)
|apply zAd
|apply zAg rfl rfl
 . conv => lhs; whnf
 . conv => lhs; whnf
 . first | exact bT1 ‹_› | exact bT2 ‹_›
|apply zAY rfl rfl
 . conv => lhs; whnf
 . conv => lhs; whnf
 . first | exact bF1 ‹_› | exact bF2 ‹_›
|apply zAc rfl
 . conv => lhs; whnf
 . conv => lhs; whnf; arg 2; whnf
|apply zAQ rfl
 . conv => lhs; whnf
 . conv => lhs; whnf
 . first | fail
|apply zAD rfl rfl rfl
 . conv => lhs; whnf
 . rfl
 . rfl
 . conv => lhs; whnf; arg 1; whnf
 . conv => lhs; whnf; arg 1; whnf
 . exact ⟨by kernel_rfl,by kernel_rfl⟩
 . rfl
|apply zAz rfl rfl
 . conv => lhs; whnf
 . first | (conv => lhs; whnf; arg 1; whnf)
 . first | exact fun _ => rfl | (intro _; kernel_rfl)
 . conv => lhs; whnf
 . rfl
 . rfl
 . conv => lhs; whnf; arg 1; whnf
 . conv => lhs; whnf
|apply zAa rfl rfl
 . conv => lhs; whnf
 . first | (conv => lhs; whnf; arg 1; whnf)
|apply zAZ rfl rfl
 . conv => lhs; whnf
 . first | (conv => lhs; whnf; arg 1; whnf)
 . conv => lhs; whnf; arg 1; whnf
 . rfl
 . rfl
|apply zAS rfl rfl
 . conv => lhs; whnf
 . first | (conv => lhs; whnf; arg 1; whnf)
 . first | exact fun _ => rfl | (intro _; kernel_rfl)
 . conv => lhs; whnf
 . conv => lhs; whnf
|apply zy rfl
 . conv => lhs; whnf
 . conv => lhs; whnf
 . first | rfl | assumption
 . conv => lhs; whnf; arg 2; whnf
|apply zt rfl
 . conv => lhs; whnf
 . conv => lhs; whnf
 . first | rfl | assumption
 . conv => lhs; whnf
 . first | fail
|apply zA1 rfl
 . conv => lhs; whnf
 . conv => lhs; whnf
 . first | rfl | assumption
|apply zAE rfl
 . conv => lhs; whnf
 . conv => lhs; whnf
 . conv => lhs; whnf; arg 2; whnf
|apply zAA rfl
 . conv => lhs; whnf
 . conv => lhs; whnf
 . conv => lhs; whnf
 . first | fail
|exact zX
|exact ze
|exact all_nil
|show List.all _ _ = true; rfl
|show zAB _ _ = true; rfl
|exact ([] : List Nat)
|exact (1000000 : Nat)
|apply zN
 . conv => lhs; whnf; arg 1; arg 1; whnf
|apply zO
 . conv => lhs; whnf; arg 1; arg 1; whnf
|refine zW (by conv => lhs; whnf) ?_ ?_ <;> intro hb
|refine zn ?_
|refine zb ?_
|refine zH ?_
|refine zL ?_
|refine zG ?_
|refine zD rfl ?_
|refine zF rfl ?_
|refine zE ?_
|refine zJ ?_
|refine zC ?_
|refine zK ?_
|refine z8 ?_
|refine zI ?_
|refine ⟨_,by conv => lhs; whnf; arg 2; whnf,?_⟩; conv => rhs; whnf
|exact trivial
|intro hg)
 have f0 : decide ((i : Int) < (l.length : Nat)) = true:=decide_eq_true (by omega)
 obtain ⟨j,rfl⟩ : ∃ q,j = q + 1:=⟨j - 1,by omega⟩
 have hfi:=hf i hi
 have hpp : zB0 on (gD l i) = (((gD l i).f 1).s.toList == on.toList && ((gD l i).f 5).s.toList == (⟨#[]⟩ : ByteArray).toList):=by unfold zB0; rw [zGu]
 have htx:=zHW E0 ((gD l i).f 5).s
 rcases h1 : ((gD l i).f 1).s.toList == on.toList with _ | _ <;> rcases h2 : ((gD l i).f 5).s.toList == (⟨#[]⟩ : ByteArray).toList with _ | _
 all_goals
  rw [h1,h2] at hpp
 rotate_left 3
 . have g1:=zB7 h1
   have g2:=zB7 h2
   rw [zBy hi hpp] at hR
   repeat' (first
|apply zAo ((.agg (cellsV Tryz.prog 12 57 (f (gD l i))))) rfl rfl
 . conv => lhs; whnf; arg 2; whnf
 . repeat' (first | exact VLe.refl _ | exact VLe.nil _ | exact VLe.lit _ _ | exact VLe.own _ _ _ | apply VLe.agg | apply VLeL.cons | exact VLeL.nil)
|apply zA2 [f (gD l i)] rfl rfl
 . conv => lhs; whnf
 . first | exact zU | (conv => lhs; whnf; arg 1; whnf)
 . rfl
 . rfl
 . repeat' (first | exact trivial | apply And.intro | rfl)
|apply s_wanted_pick_t rfl rfl rfl
 . conv => lhs; whnf
 . first | rfl | assumption
 . conv => lhs; whnf
 . first | exact bT1 ‹_› | exact bT2 ‹_› | rfl
|apply zAL rfl rfl rfl
 . conv => lhs; whnf
 . first | rfl | assumption
 . conv => lhs; whnf
 . first | exact bT1 ‹_› | exact bT2 ‹_› | rfl
|apply s_wanted_pick_f rfl rfl rfl
 . conv => lhs; whnf
 . first | rfl | assumption
 . conv => lhs; whnf
 . first | exact bF1 ‹_› | exact bF2 ‹_› | rfl
|apply zAM rfl rfl rfl
 . conv => lhs; whnf
 . first | rfl | assumption
 . conv => lhs; whnf
 . first | exact bF1 ‹_› | exact bF2 ‹_› | rfl
|apply zT
 . conv => lhs; whnf
 . assumption
|apply zQ
 . conv => lhs; whnf
 . assumption
|refine zj ?_
|refine za ?_
|refine zAb ?_
|refine zB ?_
|refine zM ?_
|refine zk ?_
|refine zV ?_
|refine zd ?_
|apply aw_1
 conv => whnf
 refine ⟨?_,trivial⟩
|apply zp rfl rfl
 . conv => lhs; whnf
 . conv => lhs; whnf
 . first | exact bT1 ‹_› | exact bT2 ‹_›
|apply zo rfl rfl
 . conv => lhs; whnf
 . conv => lhs; whnf
 . first | exact bF1 ‹_› | exact bF2 ‹_›
|apply s_1
 conv => whnf; arg 1; arg 4; arg 3; whnf
 refine ⟨?_,?_⟩
|apply z7 rfl
 . conv => lhs; whnf
 . conv => lhs; whnf; arg 2; whnf
|apply zl rfl
 . conv => lhs; whnf
 . conv => lhs; whnf
 . first | exact hfi
|apply zr rfl rfl rfl rfl
 . conv => lhs; whnf; arg 1; whnf
 . rfl
|apply zq rfl rfl rfl
 . conv => lhs; whnf
 . conv => lhs; whnf; arg 1; whnf
 . conv => lhs; whnf; arg 1; whnf
 . exact ⟨by kernel_rfl,by kernel_rfl⟩
 . rfl
|apply zAu rfl rfl
 . conv => lhs; whnf
 . first | exact zU | (conv => lhs; whnf; arg 1; whnf)
 . first | exact fun _ => rfl | (intro _; kernel_rfl)
 . conv => lhs; whnf
 . conv => lhs; whnf; arg 1; whnf
 . conv => lhs; whnf
|apply zx rfl rfl rfl rfl
 . first | exact zU | (conv => lhs; whnf; arg 1; whnf)
 . first | exact fun _ => rfl | (intro _; kernel_rfl)
 . conv => lhs; whnf
 . conv => lhs; whnf
|apply zAU rfl rfl
 . conv => lhs; whnf
 . first | exact zU | (conv => lhs; whnf; arg 1; whnf)
|apply zAT rfl rfl
 . conv => lhs; whnf
 . first | exact zU | (conv => lhs; whnf; arg 1; whnf)
 . conv => lhs; whnf; arg 1; whnf
 . rfl
 . rfl
|apply zAO rfl rfl
 . conv => lhs; whnf
 . first | exact zU | (conv => lhs; whnf; arg 1; whnf)
 . first | exact fun _ => rfl | (intro _; kernel_rfl)
 . conv => lhs; whnf
 . conv => lhs; whnf
|apply zS rfl
 . conv => lhs; whnf
 . conv => lhs; whnf
 . first | rfl | assumption
 . conv => lhs; whnf; arg 2; whnf
|apply zR rfl
 . conv => lhs; whnf
 . conv => lhs; whnf
 . first | rfl | assumption
 . conv => lhs; whnf
 . first | exact hfi
|apply zAI rfl
 . conv => lhs; whnf
 . conv => lhs; whnf
 . first | rfl | assumption
|apply zAy rfl
 . conv => lhs; whnf
 . rfl
 . rfl
|apply zf rfl
 . conv => lhs; whnf
 . conv => lhs; whnf
 . conv => lhs; whnf; arg 2; whnf
|apply zu rfl
 . conv => lhs; whnf
 . conv => lhs; whnf
 . conv => lhs; whnf
 . first | exact hfi
|apply zm rfl
 . conv => lhs; whnf
 . conv => lhs; whnf
 . conv => lhs; whnf; arg 2; whnf
|apply zi rfl
 . conv => lhs; whnf
 . conv => lhs; whnf
 . conv => lhs; whnf
 . first | exact hfi
|apply zw (by kernel_rfl) (by kernel_rfl)
|apply zAd
|apply zAg rfl rfl
 . conv => lhs; whnf
 . conv => lhs; whnf
 . first | exact bT1 ‹_› | exact bT2 ‹_›
|apply zAY rfl rfl
 . conv => lhs; whnf
 . conv => lhs; whnf
 . first | exact bF1 ‹_› | exact bF2 ‹_›
|apply zAc rfl
 . conv => lhs; whnf
 . conv => lhs; whnf; arg 2; whnf
|apply zAQ rfl
 . conv => lhs; whnf
 . conv => lhs; whnf
 . first | exact hfi
|apply zAD rfl rfl rfl
 . conv => lhs; whnf
 . rfl
 . rfl
 . conv => lhs; whnf; arg 1; whnf
 . conv => lhs; whnf; arg 1; whnf
 . exact ⟨by kernel_rfl,by kernel_rfl⟩
 . rfl
|apply zAz rfl rfl
 . conv => lhs; whnf
 . first | exact zU | (conv => lhs; whnf; arg 1; whnf)
 . first | exact fun _ => rfl | (intro _; kernel_rfl)
 . conv => lhs; whnf
 . rfl
 . rfl
 . conv => lhs; whnf; arg 1; whnf
 . conv => lhs; whnf
|apply zAa rfl rfl
 . conv => lhs; whnf
 . first | exact zU | (conv => lhs; whnf; arg 1; whnf)
|apply zAZ rfl rfl
 . conv => lhs; whnf
 . first | exact zU | (conv => lhs; whnf; arg 1; whnf)
 . conv => lhs; whnf; arg 1; whnf
 . rfl
 . rfl
|apply zAS rfl rfl
 . conv => lhs; whnf
 . first | exact zU | (conv => lhs; whnf; arg 1; whnf)
 . first | exact fun _ => rfl | (intro _; kernel_rfl)
 . conv => lhs; whnf
 . conv => lhs; whnf
|apply zy rfl
 . conv => lhs; whnf
 . conv => lhs; whnf
 . first | rfl | assumption
 . conv => lhs; whnf; arg 2; whnf
|apply zt rfl
 . conv => lhs; whnf
 . conv => lhs; whnf
 . first | rfl | assumption
 . conv => lhs; whnf
 . first | exact hfi
|apply zA1 rfl
 . conv => lhs; whnf
 . conv => lhs; whnf
 . first | rfl | assumption
|apply zAE rfl
 . conv => lhs; whnf
 . conv => lhs; whnf
 . conv => lhs; whnf; arg 2; whnf
|apply zAA rfl
 . conv => lhs; whnf
 . conv => lhs; whnf
 . conv => lhs; whnf
 . first | exact hfi
|exact zX
|exact ze
|exact all_nil
|show List.all _ _ = true; rfl
|show zAB _ _ = true; rfl
|exact ([] : List Nat)
|exact (1000000 : Nat)
|apply zN
 . conv => lhs; whnf; arg 1; arg 1; whnf
|apply zO
 . conv => lhs; whnf; arg 1; arg 1; whnf
|refine zW (by conv => lhs; whnf) ?_ ?_ <;> intro hb
|refine zn ?_
|refine zb ?_
|refine zH ?_
|refine zL ?_
|refine zG ?_
|refine zD rfl ?_
|refine zF rfl ?_
|refine zE ?_
|refine zJ ?_
|refine zC ?_
|refine zK ?_
|refine z8 ?_
|refine zI ?_
|refine ⟨_,by conv => lhs; whnf; arg 2; whnf,?_⟩; conv => rhs; whnf
|exact trivial
|intro hg)
   all_goals first
    | exact zAN (by omega)
    | exact at31 hi
    | (refine ⟨by simp,?_,?_⟩ <;> simp only [List.length_cons,List.length_nil,maxLen] <;> omega)
    | skip
   refine zY (j':=n - 1) (by omega) ⟨i + 1,acc ++ [f (gD l i)],j,by rw [List.append_assoc]; exact hR,by omega,by omega,by rw [List.length_append]; simp only [List.length_cons,List.length_nil]; omega,Sub.live ⟨rfl,rfl,rfl,rfl,trivial⟩ ⟨?_,trivial⟩⟩
   rw [List.length_append]; rfl
 all_goals
  rw [zC2 hi hpp] at hR
  have hgp:=zHv (f:=f) (l:=l) (i:=i) hi
  have hgi:=zG4 (f:=f) (l:=l) (p:=gD l i) (k:=l.length) (i:=i) (by omega)
  generalize hG : grpI f l (gD l i) l.length i = G at *
 let bb:=true
 have hd : (!((gD l i).f 5).s.toList == (⟨#[]⟩ : ByteArray).toList) = true:=by rw [h2]; rfl
 rw [zDM (b:=bb) G (by rw [h2]; rfl)] at hR
 have g1:=zDi h1
 rotate_left 1
 let bb:=false
 have hd : (!((gD l i).f 5).s.toList == (⟨#[]⟩ : ByteArray).toList) = false:=by rw [h2]; rfl
 rw [zDM (b:=bb) G (by rw [h2]; rfl)] at hR
 have g1:=zDi h1
 rotate_left 1
 let bb:=true
 have hd : (!((gD l i).f 5).s.toList == (⟨#[]⟩ : ByteArray).toList) = true:=by rw [h2]; rfl
 rw [zDM (b:=bb) G (by rw [h2]; rfl)] at hR
 have g1:=zB7 h1
 have g2:=zDi h2
 rotate_left 1
 all_goals
  repeat' (first
|apply zAo ((.agg (cellsV Tryz.prog 12 68 (sArg ⟨#[108,97,98,101,108]⟩ (vD31 3 0 ((gD l i).f 5).s))))) rfl rfl
 . conv => lhs; whnf; arg 2; whnf
 . repeat' (first | exact VLe.refl _ | exact VLe.nil _ | exact VLe.lit _ _ | exact VLe.own _ _ _ | apply VLe.agg | apply VLeL.cons | exact VLeL.nil)
|apply zAo ((.agg (cellsV Tryz.prog 12 129 (zDe ((gD l i).f 5).s)))) rfl rfl
 . conv => lhs; whnf; arg 2; whnf
 . repeat' (first | exact VLe.refl _ | exact VLe.nil _ | exact VLe.lit _ _ | exact VLe.own _ _ _ | apply VLe.agg | apply VLeL.cons | exact VLeL.nil)
|apply zA2 [sArg ⟨#[108,97,98,101,108]⟩ (vD31 3 0 ((gD l i).f 5).s)] rfl rfl
 . conv => lhs; whnf
 . first | exact zU | (conv => lhs; whnf; arg 1; whnf)
 . rfl
 . rfl
 . repeat' (first | exact trivial | apply And.intro | rfl)
|apply zA2 [zDe ((gD l i).f 5).s] rfl rfl
 . conv => lhs; whnf
 . first | exact zU | (conv => lhs; whnf; arg 1; whnf)
 . rfl
 . rfl
 . repeat' (first | exact trivial | apply And.intro | rfl)
|apply s_wanted_pick_t rfl rfl rfl
 . conv => lhs; whnf
 . first | rfl | assumption
 . conv => lhs; whnf
 . first | exact bT1 ‹_› | exact bT2 ‹_› | rfl
|apply zAL rfl rfl rfl
 . conv => lhs; whnf
 . first | rfl | assumption
 . conv => lhs; whnf
 . first | exact bT1 ‹_› | exact bT2 ‹_› | rfl
|apply s_wanted_pick_f rfl rfl rfl
 . conv => lhs; whnf
 . first | rfl | assumption
 . conv => lhs; whnf
 . first | exact bF1 ‹_› | exact bF2 ‹_› | rfl
|apply zAM rfl rfl rfl
 . conv => lhs; whnf
 . first | rfl | assumption
 . conv => lhs; whnf
 . first | exact bF1 ‹_› | exact bF2 ‹_› | rfl
|apply zT
 . conv => lhs; whnf
 . assumption
|apply zQ
 . conv => lhs; whnf
 . assumption
|refine zj ?_
|refine za ?_
|refine zAb ?_
|refine zB ?_
|refine zM ?_
|refine zk ?_
|refine zV ?_
|refine zd ?_
|apply aw_1
 conv => whnf
 refine ⟨?_,trivial⟩
|apply zp rfl rfl
 . conv => lhs; whnf
 . conv => lhs; whnf
 . first | exact bT1 ‹_› | exact bT2 ‹_›
|apply zo rfl rfl
 . conv => lhs; whnf
 . conv => lhs; whnf
 . first | exact bF1 ‹_› | exact bF2 ‹_›
|apply s_1
 conv => whnf; arg 1; arg 4; arg 3; whnf
 refine ⟨?_,?_⟩
|apply z7 rfl
 . conv => lhs; whnf
 . conv => lhs; whnf; arg 2; whnf
|apply zl rfl
 . conv => lhs; whnf
 . conv => lhs; whnf
 . first | exact htx
|apply zr rfl rfl rfl rfl
 . conv => lhs; whnf; arg 1; whnf
 . rfl
|apply zq rfl rfl rfl
 . conv => lhs; whnf
 . conv => lhs; whnf; arg 1; whnf
 . conv => lhs; whnf; arg 1; whnf
 . exact ⟨by kernel_rfl,by kernel_rfl⟩
 . rfl
|apply zAu rfl rfl
 . conv => lhs; whnf
 . first | exact zU | (conv => lhs; whnf; arg 1; whnf)
 . first | exact fun _ => rfl | (intro _; kernel_rfl)
 . conv => lhs; whnf
 . conv => lhs; whnf; arg 1; whnf
 . conv => lhs; whnf
|apply zx rfl rfl rfl rfl
 . first | exact zU | (conv => lhs; whnf; arg 1; whnf)
 . first | exact fun _ => rfl | (intro _; kernel_rfl)
 . conv => lhs; whnf
 . conv => lhs; whnf
|apply zAU rfl rfl
 . conv => lhs; whnf
 . first | exact zU | (conv => lhs; whnf; arg 1; whnf)
|apply zAT rfl rfl
 . conv => lhs; whnf
 . first | exact zU | (conv => lhs; whnf; arg 1; whnf)
 . conv => lhs; whnf; arg 1; whnf
 . rfl
 . rfl
|apply zAO rfl rfl
 . conv => lhs; whnf
 . first | exact zU | (conv => lhs; whnf; arg 1; whnf)
 . first | exact fun _ => rfl | (intro _; kernel_rfl)
 . conv => lhs; whnf
 . conv => lhs; whnf
|apply zS rfl
 . conv => lhs; whnf
 . conv => lhs; whnf
 . first | rfl | assumption
 . conv => lhs; whnf; arg 2; whnf
|apply zR rfl
 . conv => lhs; whnf
 . conv => lhs; whnf
 . first | rfl | assumption
 . conv => lhs; whnf
 . first | exact htx
|apply zAI rfl
 . conv => lhs; whnf
 . conv => lhs; whnf
 . first | rfl | assumption
|apply zAy rfl
 . conv => lhs; whnf
 . rfl
 . rfl
|apply zf rfl
 . conv => lhs; whnf
 . conv => lhs; whnf
 . conv => lhs; whnf; arg 2; whnf
|apply zu rfl
 . conv => lhs; whnf
 . conv => lhs; whnf
 . conv => lhs; whnf
 . first | exact htx
|apply zm rfl
 . conv => lhs; whnf
 . conv => lhs; whnf
 . conv => lhs; whnf; arg 2; whnf
|apply zi rfl
 . conv => lhs; whnf
 . conv => lhs; whnf
 . conv => lhs; whnf
 . first | exact htx
|apply zw (by kernel_rfl) (by kernel_rfl)
|apply zAd
|apply zAg rfl rfl
 . conv => lhs; whnf
 . conv => lhs; whnf
 . first | exact bT1 ‹_› | exact bT2 ‹_›
|apply zAY rfl rfl
 . conv => lhs; whnf
 . conv => lhs; whnf
 . first | exact bF1 ‹_› | exact bF2 ‹_›
|apply zAc rfl
 . conv => lhs; whnf
 . conv => lhs; whnf; arg 2; whnf
|apply zAQ rfl
 . conv => lhs; whnf
 . conv => lhs; whnf
 . first | exact htx
|apply zAD rfl rfl rfl
 . conv => lhs; whnf
 . rfl
 . rfl
 . conv => lhs; whnf; arg 1; whnf
 . conv => lhs; whnf; arg 1; whnf
 . exact ⟨by kernel_rfl,by kernel_rfl⟩
 . rfl
|apply zAz rfl rfl
 . conv => lhs; whnf
 . first | exact zU | (conv => lhs; whnf; arg 1; whnf)
 . first | exact fun _ => rfl | (intro _; kernel_rfl)
 . conv => lhs; whnf
 . rfl
 . rfl
 . conv => lhs; whnf; arg 1; whnf
 . conv => lhs; whnf
|apply zAa rfl rfl
 . conv => lhs; whnf
 . first | exact zU | (conv => lhs; whnf; arg 1; whnf)
|apply zAZ rfl rfl
 . conv => lhs; whnf
 . first | exact zU | (conv => lhs; whnf; arg 1; whnf)
 . conv => lhs; whnf; arg 1; whnf
 . rfl
 . rfl
|apply zAS rfl rfl
 . conv => lhs; whnf
 . first | exact zU | (conv => lhs; whnf; arg 1; whnf)
 . first | exact fun _ => rfl | (intro _; kernel_rfl)
 . conv => lhs; whnf
 . conv => lhs; whnf
|apply zy rfl
 . conv => lhs; whnf
 . conv => lhs; whnf
 . first | rfl | assumption
 . conv => lhs; whnf; arg 2; whnf
|apply zt rfl
 . conv => lhs; whnf
 . conv => lhs; whnf
 . first | rfl | assumption
 . conv => lhs; whnf
 . first | exact htx
|apply zA1 rfl
 . conv => lhs; whnf
 . conv => lhs; whnf
 . first | rfl | assumption
|apply zAE rfl
 . conv => lhs; whnf
 . conv => lhs; whnf
 . conv => lhs; whnf; arg 2; whnf
|apply zAA rfl
 . conv => lhs; whnf
 . conv => lhs; whnf
 . conv => lhs; whnf
 . first | exact htx
|exact zX
|exact ze
|exact all_nil
|show List.all _ _ = true; rfl
|show zAB _ _ = true; rfl
|exact ([] : List Nat)
|exact (1000000 : Nat)
|apply zN
 . conv => lhs; whnf; arg 1; arg 1; whnf
|apply zO
 . conv => lhs; whnf; arg 1; arg 1; whnf
|refine zW (by conv => lhs; whnf) ?_ ?_ <;> intro hb
|refine zn ?_
|refine zb ?_
|refine zH ?_
|refine zL ?_
|refine zG ?_
|refine zD rfl ?_
|refine zF rfl ?_
|refine zE ?_
|refine zJ ?_
|refine zC ?_
|refine zK ?_
|refine z8 ?_
|refine zI ?_
|refine ⟨_,by conv => lhs; whnf; arg 2; whnf,?_⟩; conv => rhs; whnf
|exact trivial
|intro hg)
  all_goals first
   | exact zAN (by omega)
   | exact at31 hi
   | skip
  refine zAF (Sub.ownF (m:=8) (q:=901) (i:=6) (e:=57) rfl (by decide) rfl rfl rfl) ?_
  refine zAG (fun m st => ∃ i2 g k,g ++ grpI f l (gD l i) k i2 = G /\ m + i2 = l.length /\ l.length <= i2 + k /\ i + g.length = i2 /\ Sub (cx E0 Tryz.prog s w he) st (HRi31 on l acc (gD l i) bb g i i2)) (l.length - i) ⟨i,[],l.length,hG,by omega,by omega,rfl,Sub.live ⟨rfl,rfl,rfl,rfl,rfl,rfl,trivial⟩ ⟨rfl,rfl,rfl,trivial⟩⟩ ?_
  clear hG
  rintro m st2 ⟨i2,g,k,hG,hm,hk,hgl,hs3⟩
  refine zAF hs3 ?_
  clear hs3 htx hd
  have hway : (¬ i2 < l.length) \/ (i2 < l.length /\ (((gD l i2).f 1).s.toList == ((gD l i).f 1).s.toList) = false) \/ (i2 < l.length /\ (((gD l i2).f 1).s.toList == ((gD l i).f 1).s.toList) = true /\ (((gD l i2).f 5).s.toList == ((gD l i).f 5).s.toList) = false) \/ (i2 < l.length /\ (((gD l i2).f 1).s.toList == ((gD l i).f 1).s.toList) = true /\ (((gD l i2).f 5).s.toList == ((gD l i).f 5).s.toList) = true):=by
   by_cases hi2 : i2 < l.length
   . cases q1 : (((gD l i2).f 1).s.toList == ((gD l i).f 1).s.toList) <;> cases q2 : (((gD l i2).f 5).s.toList == ((gD l i).f 5).s.toList)
     . exact .inr (.inl ⟨hi2,rfl⟩)
     . exact .inr (.inl ⟨hi2,rfl⟩)
     . exact .inr (.inr (.inl ⟨hi2,rfl,rfl⟩))
     . exact .inr (.inr (.inr ⟨hi2,rfl,rfl⟩))
   . exact .inl hi2
  rcases hway with hi2 | ⟨hi2,q1⟩ | ⟨hi2,q1,q2⟩ | ⟨hi2,q1,q2⟩
  rotate_left 3
  . have e0 : decide ((i2 : Int) < (l.length : Nat)) = true:=decide_eq_true (by omega)
    have e1:=zB7 e0
    have e2:=zB7 q1
    have e3:=zB7 q2
    obtain ⟨k,rfl⟩ : ∃ q,k = q + 1:=⟨k - 1,by omega⟩
    rw [zFX ⟨hi2,by unfold zBG; rw [q1,q2]; rfl⟩] at hG
    have hf2:=hf i2 hi2
    repeat' (first
|apply zAo ((.agg (cellsV Tryz.prog 12 57 (f (gD l i2))))) rfl rfl
 . conv => lhs; whnf; arg 2; whnf
 . repeat' (first | exact VLe.refl _ | exact VLe.nil _ | exact VLe.lit _ _ | exact VLe.own _ _ _ | apply VLe.agg | apply VLeL.cons | exact VLeL.nil)
|apply zA2 [f (gD l i2)] rfl rfl
 . conv => lhs; whnf
 . first | exact zU | (conv => lhs; whnf; arg 1; whnf)
 . rfl
 . rfl
 . repeat' (first | exact trivial | apply And.intro | rfl)
|apply s_wanted_pick_t rfl rfl rfl
 . conv => lhs; whnf
 . first | rfl | assumption
 . conv => lhs; whnf
 . first | exact bT1 ‹_› | exact bT2 ‹_› | rfl
|apply zAL rfl rfl rfl
 . conv => lhs; whnf
 . first | rfl | assumption
 . conv => lhs; whnf
 . first | exact bT1 ‹_› | exact bT2 ‹_› | rfl
|apply s_wanted_pick_f rfl rfl rfl
 . conv => lhs; whnf
 . first | rfl | assumption
 . conv => lhs; whnf
 . first | exact bF1 ‹_› | exact bF2 ‹_› | rfl
|apply zAM rfl rfl rfl
 . conv => lhs; whnf
 . first | rfl | assumption
 . conv => lhs; whnf
 . first | exact bF1 ‹_› | exact bF2 ‹_› | rfl
|apply zT
 . conv => lhs; whnf
 . assumption
|apply zQ
 . conv => lhs; whnf
 . assumption
|refine zj ?_
|refine za ?_
|refine zAb ?_
|refine zB ?_
|refine zM ?_
|refine zk ?_
|refine zV ?_
|refine zd ?_
|apply aw_1
 conv => whnf
 refine ⟨?_,trivial⟩
|apply zp rfl rfl
 . conv => lhs; whnf
 . conv => lhs; whnf
 . first | exact bT1 ‹_› | exact bT2 ‹_›
|apply zo rfl rfl
 . conv => lhs; whnf
 . conv => lhs; whnf
 . first | exact bF1 ‹_› | exact bF2 ‹_›
|apply s_1
 conv => whnf; arg 1; arg 4; arg 3; whnf
 refine ⟨?_,?_⟩
|apply z7 rfl
 . conv => lhs; whnf
 . conv => lhs; whnf; arg 2; whnf
|apply zl rfl
 . conv => lhs; whnf
 . conv => lhs; whnf
 . first | exact hf2
|apply zr rfl rfl rfl rfl
 . conv => lhs; whnf; arg 1; whnf
 . rfl
|apply zq rfl rfl rfl
 . conv => lhs; whnf
 . conv => lhs; whnf; arg 1; whnf
 . conv => lhs; whnf; arg 1; whnf
 . exact ⟨by kernel_rfl,by kernel_rfl⟩
 . rfl
|apply zAu rfl rfl
 . conv => lhs; whnf
 . first | exact zU | (conv => lhs; whnf; arg 1; whnf)
 . first | exact fun _ => rfl | (intro _; kernel_rfl)
 . conv => lhs; whnf
 . conv => lhs; whnf; arg 1; whnf
 . conv => lhs; whnf
|apply zx rfl rfl rfl rfl
 . first | exact zU | (conv => lhs; whnf; arg 1; whnf)
 . first | exact fun _ => rfl | (intro _; kernel_rfl)
 . conv => lhs; whnf
 . conv => lhs; whnf
|apply zAU rfl rfl
 . conv => lhs; whnf
 . first | exact zU | (conv => lhs; whnf; arg 1; whnf)
|apply zAT rfl rfl
 . conv => lhs; whnf
 . first | exact zU | (conv => lhs; whnf; arg 1; whnf)
 . conv => lhs; whnf; arg 1; whnf
 . rfl
 . rfl
|apply zAO rfl rfl
 . conv => lhs; whnf
 . first | exact zU | (conv => lhs; whnf; arg 1; whnf)
 . first | exact fun _ => rfl | (intro _; kernel_rfl)
 . conv => lhs; whnf
 . conv => lhs; whnf
|apply zS rfl
 . conv => lhs; whnf
 . conv => lhs; whnf
 . first | rfl | assumption
 . conv => lhs; whnf; arg 2; whnf
|apply zR rfl
 . conv => lhs; whnf
 . conv => lhs; whnf
 . first | rfl | assumption
 . conv => lhs; whnf
 . first | exact hf2
|apply zAI rfl
 . conv => lhs; whnf
 . conv => lhs; whnf
 . first | rfl | assumption
|apply zAy rfl
 . conv => lhs; whnf
 . rfl
 . rfl
|apply zf rfl
 . conv => lhs; whnf
 . conv => lhs; whnf
 . conv => lhs; whnf; arg 2; whnf
|apply zu rfl
 . conv => lhs; whnf
 . conv => lhs; whnf
 . conv => lhs; whnf
 . first | exact hf2
|apply zm rfl
 . conv => lhs; whnf
 . conv => lhs; whnf
 . conv => lhs; whnf; arg 2; whnf
|apply zi rfl
 . conv => lhs; whnf
 . conv => lhs; whnf
 . conv => lhs; whnf
 . first | exact hf2
|apply zw (by kernel_rfl) (by kernel_rfl)
|apply zAd
|apply zAg rfl rfl
 . conv => lhs; whnf
 . conv => lhs; whnf
 . first | exact bT1 ‹_› | exact bT2 ‹_›
|apply zAY rfl rfl
 . conv => lhs; whnf
 . conv => lhs; whnf
 . first | exact bF1 ‹_› | exact bF2 ‹_›
|apply zAc rfl
 . conv => lhs; whnf
 . conv => lhs; whnf; arg 2; whnf
|apply zAQ rfl
 . conv => lhs; whnf
 . conv => lhs; whnf
 . first | exact hf2
|apply zAD rfl rfl rfl
 . conv => lhs; whnf
 . rfl
 . rfl
 . conv => lhs; whnf; arg 1; whnf
 . conv => lhs; whnf; arg 1; whnf
 . exact ⟨by kernel_rfl,by kernel_rfl⟩
 . rfl
|apply zAz rfl rfl
 . conv => lhs; whnf
 . first | exact zU | (conv => lhs; whnf; arg 1; whnf)
 . first | exact fun _ => rfl | (intro _; kernel_rfl)
 . conv => lhs; whnf
 . rfl
 . rfl
 . conv => lhs; whnf; arg 1; whnf
 . conv => lhs; whnf
|apply zAa rfl rfl
 . conv => lhs; whnf
 . first | exact zU | (conv => lhs; whnf; arg 1; whnf)
|apply zAZ rfl rfl
 . conv => lhs; whnf
 . first | exact zU | (conv => lhs; whnf; arg 1; whnf)
 . conv => lhs; whnf; arg 1; whnf
 . rfl
 . rfl
|apply zAS rfl rfl
 . conv => lhs; whnf
 . first | exact zU | (conv => lhs; whnf; arg 1; whnf)
 . first | exact fun _ => rfl | (intro _; kernel_rfl)
 . conv => lhs; whnf
 . conv => lhs; whnf
|apply zy rfl
 . conv => lhs; whnf
 . conv => lhs; whnf
 . first | rfl | assumption
 . conv => lhs; whnf; arg 2; whnf
|apply zt rfl
 . conv => lhs; whnf
 . conv => lhs; whnf
 . first | rfl | assumption
 . conv => lhs; whnf
 . first | exact hf2
|apply zA1 rfl
 . conv => lhs; whnf
 . conv => lhs; whnf
 . first | rfl | assumption
|apply zAE rfl
 . conv => lhs; whnf
 . conv => lhs; whnf
 . conv => lhs; whnf; arg 2; whnf
|apply zAA rfl
 . conv => lhs; whnf
 . conv => lhs; whnf
 . conv => lhs; whnf
 . first | exact hf2
|exact zX
|exact ze
|exact all_nil
|show List.all _ _ = true; rfl
|show zAB _ _ = true; rfl
|exact ([] : List Nat)
|exact (1000000 : Nat)
|apply zN
 . conv => lhs; whnf; arg 1; arg 1; whnf
|apply zO
 . conv => lhs; whnf; arg 1; arg 1; whnf
|refine zW (by conv => lhs; whnf) ?_ ?_ <;> intro hb
|refine zn ?_
|refine zb ?_
|refine zH ?_
|refine zL ?_
|refine zG ?_
|refine zD rfl ?_
|refine zF rfl ?_
|refine zE ?_
|refine zJ ?_
|refine zC ?_
|refine zK ?_
|refine z8 ?_
|refine zI ?_
|refine ⟨_,by conv => lhs; whnf; arg 2; whnf,?_⟩; conv => rhs; whnf
|exact trivial
|intro hg)
    all_goals first
     | exact zAN (by omega)
     | exact at31 hi2
     | exact at31 hi
     | (refine ⟨by simp,?_,?_⟩ <;> simp only [List.length_cons,List.length_nil,maxLen] <;> omega)
     | skip
    refine zY (j':=m - 1) (by omega) ⟨i2 + 1,g ++ [f (gD l i2)],k,by rw [List.append_assoc]; exact hG,by omega,by omega,by rw [List.length_append]; simp only [List.length_cons,List.length_nil]; omega,Sub.live ⟨rfl,rfl,rfl,rfl,rfl,rfl,trivial⟩ ⟨rfl,rfl,?_,trivial⟩⟩
    rw [List.length_append]; rfl
  have e0 : decide ((i2 : Int) < (l.length : Nat)) = false:=decide_eq_false (by omega)
  have e1:=zDi e0
  have hno : ¬ (i2 < l.length /\ zBG (gD l i) (gD l i2) = true):=fun h => hi2 h.1
  rotate_left 1
  have e0 : decide ((i2 : Int) < (l.length : Nat)) = true:=decide_eq_true (by omega)
  have e1:=zB7 e0
  have e2:=zDi q1
  have hno : ¬ (i2 < l.length /\ zBG (gD l i) (gD l i2) = true):=fun h => by have:=h.2; unfold zBG at this; rw [q1] at this; cases this
  rotate_left 1
  have e0 : decide ((i2 : Int) < (l.length : Nat)) = true:=decide_eq_true (by omega)
  have e1:=zB7 e0
  have e2:=zB7 q1
  have e3:=zDi q2
  have hno : ¬ (i2 < l.length /\ zBG (gD l i) (gD l i2) = true):=fun h => by have:=h.2; unfold zBG at this; rw [q1,q2] at this; cases this
  rotate_left 1
  all_goals
   rw [zFY hno,List.append_nil] at hG
   subst hG
   repeat' (first
|apply zAo ((.agg (cellsV Tryz.prog 12 57 (inlB bb (gD l i) g)))) rfl rfl
 . conv => lhs; whnf; arg 2; whnf
 . repeat' (first | exact VLe.refl _ | exact VLe.nil _ | exact VLe.lit _ _ | exact VLe.own _ _ _ | apply VLe.agg | apply VLeL.cons | exact VLeL.nil)
|apply zA2 [inlB bb (gD l i) g] rfl rfl
 . conv => lhs; whnf
 . first | exact zU | (conv => lhs; whnf; arg 1; whnf)
 . rfl
 . rfl
 . repeat' (first | exact trivial | apply And.intro | rfl)
|apply s_wanted_pick_t rfl rfl rfl
 . conv => lhs; whnf
 . first | rfl | assumption
 . conv => lhs; whnf
 . first | exact bT1 ‹_› | exact bT2 ‹_› | rfl
|apply zAL rfl rfl rfl
 . conv => lhs; whnf
 . first | rfl | assumption
 . conv => lhs; whnf
 . first | exact bT1 ‹_› | exact bT2 ‹_› | rfl
|apply s_wanted_pick_f rfl rfl rfl
 . conv => lhs; whnf
 . first | rfl | assumption
 . conv => lhs; whnf
 . first | exact bF1 ‹_› | exact bF2 ‹_› | rfl
|apply zAM rfl rfl rfl
 . conv => lhs; whnf
 . first | rfl | assumption
 . conv => lhs; whnf
 . first | exact bF1 ‹_› | exact bF2 ‹_› | rfl
|apply zT
 . conv => lhs; whnf
 . assumption
|apply zQ
 . conv => lhs; whnf
 . assumption
|refine zj ?_
|refine za ?_
|refine zAb ?_
|refine zB ?_
|refine zM ?_
|refine zk ?_
|refine zV ?_
|refine zd ?_
|apply aw_1
 conv => whnf
 refine ⟨?_,trivial⟩
|apply zp rfl rfl
 . conv => lhs; whnf
 . conv => lhs; whnf
 . first | exact bT1 ‹_› | exact bT2 ‹_›
|apply zo rfl rfl
 . conv => lhs; whnf
 . conv => lhs; whnf
 . first | exact bF1 ‹_› | exact bF2 ‹_›
|apply s_1
 conv => whnf; arg 1; arg 4; arg 3; whnf
 refine ⟨?_,?_⟩
|apply z7 rfl
 . conv => lhs; whnf
 . conv => lhs; whnf; arg 2; whnf
|apply zl rfl
 . conv => lhs; whnf
 . conv => lhs; whnf
 . first | fail
|apply zr rfl rfl rfl rfl
 . conv => lhs; whnf; arg 1; whnf
 . rfl
|apply zq rfl rfl rfl
 . conv => lhs; whnf
 . conv => lhs; whnf; arg 1; whnf
 . conv => lhs; whnf; arg 1; whnf
 . exact ⟨by kernel_rfl,by kernel_rfl⟩
 . rfl
|apply zAu rfl rfl
 . conv => lhs; whnf
 . first | exact zU | (conv => lhs; whnf; arg 1; whnf)
 . first | exact fun _ => rfl | (intro _; kernel_rfl)
 . conv => lhs; whnf
 . conv => lhs; whnf; arg 1; whnf
 . conv => lhs; whnf
|apply zx rfl rfl rfl rfl
 . first | exact zU | (conv => lhs; whnf; arg 1; whnf)
 . first | exact fun _ => rfl | (intro _; kernel_rfl)
 . conv => lhs; whnf
 . conv => lhs; whnf
|apply zAU rfl rfl
 . conv => lhs; whnf
 . first | exact zU | (conv => lhs; whnf; arg 1; whnf)
|apply zAT rfl rfl
 . conv => lhs; whnf
 . first | exact zU | (conv => lhs; whnf; arg 1; whnf)
 . conv => lhs; whnf; arg 1; whnf
 . rfl
 . rfl
|apply zAO rfl rfl
 . conv => lhs; whnf
 . first | exact zU | (conv => lhs; whnf; arg 1; whnf)
 . first | exact fun _ => rfl | (intro _; kernel_rfl)
 . conv => lhs; whnf
 . conv => lhs; whnf
|apply zS rfl
 . conv => lhs; whnf
 . conv => lhs; whnf
 . first | rfl | assumption
 . conv => lhs; whnf; arg 2; whnf
|apply zR rfl
 . conv => lhs; whnf
 . conv => lhs; whnf
 . first | rfl | assumption
 . conv => lhs; whnf
 . first | fail
|apply zAI rfl
 . conv => lhs; whnf
 . conv => lhs; whnf
 . first | rfl | assumption
|apply zAy rfl
 . conv => lhs; whnf
 . rfl
 . rfl
|apply zf rfl
 . conv => lhs; whnf
 . conv => lhs; whnf
 . conv => lhs; whnf; arg 2; whnf
|apply zu rfl
 . conv => lhs; whnf
 . conv => lhs; whnf
 . conv => lhs; whnf
 . first | fail
|apply zm rfl
 . conv => lhs; whnf
 . conv => lhs; whnf
 . conv => lhs; whnf; arg 2; whnf
|apply zi rfl
 . conv => lhs; whnf
 . conv => lhs; whnf
 . conv => lhs; whnf
 . first | fail
|apply zw (by kernel_rfl) (by kernel_rfl)
|apply zAd
|apply zAg rfl rfl
 . conv => lhs; whnf
 . conv => lhs; whnf
 . first | exact bT1 ‹_› | exact bT2 ‹_›
|apply zAY rfl rfl
 . conv => lhs; whnf
 . conv => lhs; whnf
 . first | exact bF1 ‹_› | exact bF2 ‹_›
|apply zAc rfl
 . conv => lhs; whnf
 . conv => lhs; whnf; arg 2; whnf
|apply zAQ rfl
 . conv => lhs; whnf
 . conv => lhs; whnf
 . first | fail
|apply zAD rfl rfl rfl
 . conv => lhs; whnf
 . rfl
 . rfl
 . conv => lhs; whnf; arg 1; whnf
 . conv => lhs; whnf; arg 1; whnf
 . exact ⟨by kernel_rfl,by kernel_rfl⟩
 . rfl
|apply zAz rfl rfl
 . conv => lhs; whnf
 . first | exact zU | (conv => lhs; whnf; arg 1; whnf)
 . first | exact fun _ => rfl | (intro _; kernel_rfl)
 . conv => lhs; whnf
 . rfl
 . rfl
 . conv => lhs; whnf; arg 1; whnf
 . conv => lhs; whnf
|apply zAa rfl rfl
 . conv => lhs; whnf
 . first | exact zU | (conv => lhs; whnf; arg 1; whnf)
|apply zAZ rfl rfl
 . conv => lhs; whnf
 . first | exact zU | (conv => lhs; whnf; arg 1; whnf)
 . conv => lhs; whnf; arg 1; whnf
 . rfl
 . rfl
|apply zAS rfl rfl
 . conv => lhs; whnf
 . first | exact zU | (conv => lhs; whnf; arg 1; whnf)
 . first | exact fun _ => rfl | (intro _; kernel_rfl)
 . conv => lhs; whnf
 . conv => lhs; whnf
|apply zy rfl
 . conv => lhs; whnf
 . conv => lhs; whnf
 . first | rfl | assumption
 . conv => lhs; whnf; arg 2; whnf
|apply zt rfl
 . conv => lhs; whnf
 . conv => lhs; whnf
 . first | rfl | assumption
 . conv => lhs; whnf
 . first | fail
|apply zA1 rfl
 . conv => lhs; whnf
 . conv => lhs; whnf
 . first | rfl | assumption
|apply zAE rfl
 . conv => lhs; whnf
 . conv => lhs; whnf
 . conv => lhs; whnf; arg 2; whnf
|apply zAA rfl
 . conv => lhs; whnf
 . conv => lhs; whnf
 . conv => lhs; whnf
 . first | fail
|exact zX
|exact ze
|exact all_nil
|show List.all _ _ = true; rfl
|show zAB _ _ = true; rfl
|exact ([] : List Nat)
|exact (1000000 : Nat)
|apply zN
 . conv => lhs; whnf; arg 1; arg 1; whnf
|apply zO
 . conv => lhs; whnf; arg 1; arg 1; whnf
|refine zW (by conv => lhs; whnf) ?_ ?_ <;> intro hb
|refine zn ?_
|refine zb ?_
|refine zH ?_
|refine zL ?_
|refine zG ?_
|refine zD rfl ?_
|refine zF rfl ?_
|refine zE ?_
|refine zJ ?_
|refine zC ?_
|refine zK ?_
|refine z8 ?_
|refine zI ?_
|refine ⟨_,by conv => lhs; whnf; arg 2; whnf,?_⟩; conv => rhs; whnf
|exact trivial
|intro hg)
   all_goals first
    | exact zAN (by omega)
    | exact at31 hi2
    | exact at31 hi
    | (refine ⟨by simp,?_,?_⟩ <;> simp only [List.length_cons,List.length_nil,maxLen] <;> omega)
    | skip
   refine zY (j':=n - g.length) (by omega) ⟨i2,acc ++ [inlB bb (gD l i) g],j,by rw [<- hgl,List.append_assoc]; exact hR,by omega,by omega,by rw [List.length_append]; simp only [List.length_cons,List.length_nil]; omega,Sub.live ⟨rfl,rfl,rfl,rfl,trivial⟩ ⟨?_,trivial⟩⟩
   rw [List.length_append]; rfl
theorem pkS_nil : ∀ (k : Nat) (on : ByteArray),pkS k on [] = []
 | 0,_ => rfl
 | k + 1,on => zC3 (Nat.lt_irrefl 0)
theorem zEh (E0 : Ge) : ∀ (k : Nat) (l : List D) (on : ByteArray),CpP k l -> AC E0 Tryz.prog 71 [.c (.string on),.sl 82 l] (.sl 57 (pkS k on l))
 | 0,l,on,h => by
   have h : l = []:=h
   subst h
   exact zEg E0 (fun d => d) on [] (by simp) fun i hi => absurd hi (Nat.not_lt_zero i)
 | k + 1,l,on,h => zEg E0 (zCH (pkS k)) on l h.1 fun i hi => by
   have hc:=(h.2 i hi).2
   have hlen : ((gD l i).f 7).l.length <= 60:=by
    cases k with
    | zero => have : ((gD l i).f 7).l = []:=hc; rw [this]; simp
    | succ k => exact hc.1
   exact (fieldR_raw E0 (pkS k) (gD l i) (by omega) fun _ => zEh E0 k _ _ hc).res (fdrV_le (pkS k) (gD l i) fun h => by rw [h]; exact pkS_nil _ _)
theorem zA4 : zAX Tryz.prog 22 = some (47,72):=by kernel_rfl
theorem zAx : zAX Tryz.prog 44 = some (64,144):=by kernel_rfl
theorem rootP_ac (E0 : Ge) (k : Int) : AC E0 Tryz.prog 67 [.c (.int .i64 k)] (.c (.string (zCn k))):=by
 refine zh 10 Tryz.func67 rfl rfl rfl rfl ?_
 intro s w he
 repeat' (first
|refine zB ?_
|refine zM ?_
|refine zk ?_
|refine zV ?_
|refine zd ?_
|apply aw_1
 conv => whnf
 refine ⟨?_,trivial⟩
|apply s_1
 conv => whnf; arg 1; arg 4; arg 3; whnf
 refine ⟨?_,?_⟩
|apply z7 rfl
 . conv => lhs; whnf
 . conv => lhs; whnf; arg 2; whnf
|apply zN
 . conv => lhs; whnf; arg 1; arg 1; whnf
|apply zO
 . conv => lhs; whnf; arg 1; arg 1; whnf
|refine zW (by conv => lhs; whnf) ?_ ?_ <;> intro hb
|refine zn ?_
|refine zb ?_
|refine zH ?_
|refine zL ?_
|refine zG ?_
|refine zD rfl ?_
|refine zF rfl ?_
|refine zE ?_
|refine zJ ?_
|refine zC ?_
|refine zK ?_
|refine z8 ?_
|refine zI ?_
|refine ⟨_,by conv => lhs; whnf; arg 2; whnf,?_⟩; conv => rhs; whnf
|exact trivial
|intro hg)
 all_goals
  unfold zCn
  simp only [beq_iff_eq,beq_eq_false_iff_ne] at *
  simp [*]
theorem rootR_ac (E0 : Ge) (k : Int) : AC E0 Tryz.prog 72 [.c (.int .i64 k)] (.c (.string (zCn k))):=by
 refine zh 10 Tryz.func72 rfl rfl rfl rfl ?_
 intro s w he
 repeat' (first
|refine zB ?_
|refine zM ?_
|refine zk ?_
|refine zV ?_
|refine zd ?_
|apply aw_1
 conv => whnf
 refine ⟨?_,trivial⟩
|apply s_1
 conv => whnf; arg 1; arg 4; arg 3; whnf
 refine ⟨?_,?_⟩
|apply z7 rfl
 . conv => lhs; whnf
 . conv => lhs; whnf; arg 2; whnf
|apply zN
 . conv => lhs; whnf; arg 1; arg 1; whnf
|apply zO
 . conv => lhs; whnf; arg 1; arg 1; whnf
|refine zW (by conv => lhs; whnf) ?_ ?_ <;> intro hb
|refine zn ?_
|refine zb ?_
|refine zH ?_
|refine zL ?_
|refine zG ?_
|refine zD rfl ?_
|refine zF rfl ?_
|refine zE ?_
|refine zJ ?_
|refine zC ?_
|refine zK ?_
|refine z8 ?_
|refine zI ?_
|refine ⟨_,by conv => lhs; whnf; arg 2; whnf,?_⟩; conv => rhs; whnf
|exact trivial
|intro hg)
 all_goals
  unfold zCn
  simp only [beq_iff_eq,beq_eq_false_iff_ne] at *
  simp [*]
theorem yesP_ac (E0 : Ge) : AC E0 Tryz.prog 68 [.c (.bool true)] (.agg (cellsV Tryz.prog 12 62 (vD31 1 1 ⟨#[]⟩))):=by
 refine AC.res ?_ (zHl 1 1 ⟨#[]⟩)
 refine zh 8 Tryz.func68 rfl rfl rfl rfl ?_
 intro w0 w he
 repeat' (first
|refine zB ?_
|refine zM ?_
|refine zk ?_
|refine zV ?_
|refine zd ?_
|apply aw_1
 conv => whnf
 refine ⟨?_,trivial⟩
|apply s_1
 conv => whnf; arg 1; arg 4; arg 3; whnf
 refine ⟨?_,?_⟩
|apply z7 rfl
 . conv => lhs; whnf
 . conv => lhs; whnf; arg 2; whnf
|apply zr rfl rfl rfl rfl
 . conv => lhs; whnf; arg 1; whnf
 . rfl
|apply zq rfl rfl rfl
 . conv => lhs; whnf
 . conv => lhs; whnf; arg 1; whnf
 . conv => lhs; whnf; arg 1; whnf
 . exact ⟨by kernel_rfl,by kernel_rfl⟩
 . rfl
|apply zN
 . conv => lhs; whnf; arg 1; arg 1; whnf
|apply zO
 . conv => lhs; whnf; arg 1; arg 1; whnf
|refine zW (by conv => lhs; whnf) ?_ ?_ <;> intro hb
|refine zn ?_
|refine zb ?_
|refine zH ?_
|refine zL ?_
|refine zG ?_
|refine zD rfl ?_
|refine zF rfl ?_
|refine zE ?_
|refine zJ ?_
|refine zC ?_
|refine zK ?_
|refine z8 ?_
|refine zI ?_
|refine ⟨_,by conv => lhs; whnf; arg 2; whnf,?_⟩; conv => rhs; whnf
|exact trivial
|intro hg)
 rfl
def zBD (kind : Int) (vars sels : List D) : D:=.obj [.int kind,.str ⟨#[]⟩,.list vars,.list sels]
def ifA : D:=sArg ⟨#[105,102]⟩ (vD31 1 1 ⟨#[]⟩)
def skipX : D:=dD31 ⟨#[115,107,105,112]⟩ [ifA]
theorem pkS_ne {k : Nat} {on : ByteArray} {l : List D} (h : l ≠ []) : pkS (k + 1) on l ≠ []:=by
 obtain ⟨n,hn⟩ : ∃ n,l.length = n + 1:=⟨l.length - 1,by have : l.length ≠ 0:=fun e => h (List.length_eq_zero_iff.1 e); omega⟩
 unfold pkS
 rw [hn]
 cases hp : zB0 on (gD l 0) with
 | true => rw [zBy (by omega) hp]; simp
 | false => rw [zC2 (by omega) hp]; simp
noncomputable def HQ0 (kind : Int) (l : List D) : Vst 28:=stS 28 [(1,.bx 1 0),(2,.bx 2 0)] [(1,.box 89 [.c (.int .i64 kind),.sl 82 l]),(2,.box 25 [.c (.slice none 0 0),.c (.slice none 0 0)])]
theorem zHf (E0 : Ge) (k : Nat) (kind : Int) (l : List D) (h : CpP k l) : AC E0 Tryz.prog 34 [.agg [.c (.int .i64 kind),.sl 82 l]] (.agg [.sl 47 [zBD kind [] (opSels k kind l)],.sl 50 []]):=by
 have h1:=rootP_ac E0 kind
 have h2:=zEj E0 k l (zCn kind) h
 have h3:=yesP_ac E0
 have hres : VLe (.agg [.sl 47 [zBD kind [] (opSels k kind l)],.c (.slice none 0 0)]) (.agg [.sl 47 [zBD kind [] (opSels k kind l)],.sl 50 []]):=.agg (.cons (.refl _) (.cons (.nil _) .nil))
 refine AC.res ?_ hres
 by_cases hl : l = []
 . subst hl
   have e : opSels k kind [] = [zDg]:=rfl
   rw [e]
   refine zh 28 Tryz.func34 rfl rfl rfl rfl ?_
   intro s w he
   repeat' (first
|apply zCc ([(1,[1]),(3,[1]),(5,[1])]) ([(9,[3]),(10,[3])]) ([(9,3)]) rfl (by kernel_rfl) (by kernel_rfl) (by kernel_rfl) (by intro p hp; simp only [List.mem_cons,List.not_mem_nil,or_false] at hp; rcases hp with rfl <;> (repeat' (first | exact fresh_S rfl | refine fresh_put ?_ rfl | refine fresh_res ?_ rfl rfl)))
|apply h_nil
|apply zDO rfl rfl rfl rfl
 . conv => lhs; whnf; arg 1; whnf
 . rfl
 . rfl
 . kernel_rfl
|apply h_val rfl
 . conv => lhs; whnf
 . conv => lhs; whnf; arg 2; whnf
 . kernel_rfl
|apply h_lit0 rfl rfl rfl rfl
 . first | (conv => lhs; whnf; arg 1; whnf)
 . rfl
 . kernel_rfl
|apply zDN rfl rfl rfl
 . conv => lhs; whnf
 . rfl
 . conv => lhs; whnf; arg 1; whnf
 . conv => lhs; whnf; arg 1; whnf
 . exact ⟨by kernel_rfl,by kernel_rfl⟩
 . rfl
 . kernel_rfl
|apply h_call rfl
 . conv => lhs; whnf
 . conv => lhs; whnf
 . first | exact h1 | exact h2 | exact h3
 . kernel_rfl
|show inO _ _ = true; rfl
|apply zAo ((.agg (cellsV Tryz.prog 12 68 ifA))) rfl rfl
 . conv => lhs; whnf; arg 2; whnf
 . repeat' (first | exact VLe.refl _ | exact VLe.nil _ | exact VLe.lit _ _ | exact VLe.own _ _ _ | apply VLe.agg | apply VLeL.cons | exact VLeL.nil)
|apply zAo ((.agg (cellsV Tryz.prog 12 129 skipX))) rfl rfl
 . conv => lhs; whnf; arg 2; whnf
 . repeat' (first | exact VLe.refl _ | exact VLe.nil _ | exact VLe.lit _ _ | exact VLe.own _ _ _ | apply VLe.agg | apply VLeL.cons | exact VLeL.nil)
|apply zAo ((.agg (cellsV Tryz.prog 12 57 zDg))) rfl rfl
 . conv => lhs; whnf; arg 2; whnf
 . repeat' (first | exact VLe.refl _ | exact VLe.nil _ | exact VLe.lit _ _ | exact VLe.own _ _ _ | apply VLe.agg | apply VLeL.cons | exact VLeL.nil)
|apply zAo ((.agg (cellsV Tryz.prog 12 47 (zBD kind [] [zDg])))) rfl rfl
 . conv => lhs; whnf; arg 2; whnf
 . repeat' (first | exact VLe.refl _ | exact VLe.nil _ | exact VLe.lit _ _ | exact VLe.own _ _ _ | apply VLe.agg | apply VLeL.cons | exact VLeL.nil)
|apply zA2 [ifA] rfl rfl
 . conv => lhs; whnf
 . first | (conv => lhs; whnf; arg 1; whnf)
 . rfl
 . rfl
 . repeat' (first | exact trivial | apply And.intro | rfl)
|apply zA2 [skipX] rfl rfl
 . conv => lhs; whnf
 . first | (conv => lhs; whnf; arg 1; whnf)
 . rfl
 . rfl
 . repeat' (first | exact trivial | apply And.intro | rfl)
|apply zA2 [zDg] rfl rfl
 . conv => lhs; whnf
 . first | (conv => lhs; whnf; arg 1; whnf)
 . rfl
 . rfl
 . repeat' (first | exact trivial | apply And.intro | rfl)
|apply zA2 [zBD kind [] [zDg]] rfl rfl
 . conv => lhs; whnf
 . first | (conv => lhs; whnf; arg 1; whnf)
 . rfl
 . rfl
 . repeat' (first | exact trivial | apply And.intro | rfl)
|apply zT
 . conv => lhs; whnf
 . assumption
|apply zQ
 . conv => lhs; whnf
 . assumption
|apply zBV 1 (HQ0 kind []) rfl
|refine zj ?_
|refine za ?_
|refine zAb ?_
|refine zB ?_
|refine zM ?_
|refine zk ?_
|refine zV ?_
|refine zd ?_
|apply aw_1
 conv => whnf
 refine ⟨?_,trivial⟩
|apply s_1
 conv => whnf; arg 1; arg 4; arg 3; whnf
 refine ⟨?_,?_⟩
|apply z7 rfl
 . conv => lhs; whnf
 . conv => lhs; whnf; arg 2; whnf
|apply zl rfl
 . conv => lhs; whnf
 . conv => lhs; whnf
 . first | exact h1 | exact h2 | exact h3
|apply zAV rfl rfl rfl rfl
 . conv => lhs; whnf; arg 1; whnf
 . rfl
|apply zr rfl rfl rfl rfl
 . conv => lhs; whnf; arg 1; whnf
 . rfl
|apply zq rfl rfl rfl
 . conv => lhs; whnf
 . conv => lhs; whnf; arg 1; whnf
 . conv => lhs; whnf; arg 1; whnf
 . exact ⟨by kernel_rfl,by kernel_rfl⟩
 . rfl
|apply zAU rfl rfl
 . conv => lhs; whnf
 . first | (conv => lhs; whnf; arg 1; whnf)
|apply zAT rfl rfl
 . conv => lhs; whnf
 . first | (conv => lhs; whnf; arg 1; whnf)
 . conv => lhs; whnf; arg 1; whnf
 . rfl
 . rfl
|apply zw (by kernel_rfl) (by kernel_rfl)
|apply zAd
|apply zAc rfl
 . conv => lhs; whnf
 . conv => lhs; whnf; arg 2; whnf
|apply zAQ rfl
 . conv => lhs; whnf
 . conv => lhs; whnf
 . first | exact h1 | exact h2 | exact h3
|apply zAD rfl rfl rfl
 . conv => lhs; whnf
 . rfl
 . rfl
 . conv => lhs; whnf; arg 1; whnf
 . conv => lhs; whnf; arg 1; whnf
 . exact ⟨by kernel_rfl,by kernel_rfl⟩
 . rfl
|apply zAa rfl rfl
 . conv => lhs; whnf
 . first | (conv => lhs; whnf; arg 1; whnf)
|apply zAZ rfl rfl
 . conv => lhs; whnf
 . first | (conv => lhs; whnf; arg 1; whnf)
 . conv => lhs; whnf; arg 1; whnf
 . rfl
 . rfl
|exact zX
|exact ze
|exact all_nil
|show List.all _ _ = true; rfl
|show zAB _ _ = true; rfl
|exact ([] : List Nat)
|exact (1000000 : Nat)
|apply zN
 . conv => lhs; whnf; arg 1; arg 1; whnf
|apply zO
 . conv => lhs; whnf; arg 1; arg 1; whnf
|refine zW (by conv => lhs; whnf) ?_ ?_ <;> intro hb
|refine zn ?_
|refine zb ?_
|refine zH ?_
|refine zL ?_
|refine zG ?_
|refine zD rfl ?_
|refine zF rfl ?_
|refine zE ?_
|refine zJ ?_
|refine zC ?_
|refine zK ?_
|refine z8 ?_
|refine zI ?_
|refine ⟨_,by conv => lhs; whnf; arg 2; whnf,?_⟩; conv => rhs; whnf
|exact trivial
|intro hg)
   . exact Sub.live ⟨rfl,rfl,trivial⟩ ⟨rfl,rfl,trivial⟩
   all_goals rfl
 . have e : opSels k kind l = pkS k (zCn kind) l:=by unfold opSels; rw [if_neg hl]
   rw [e]
   have hz : (((l.length : Nat) : Int) == 0) = false:=by
    rw [beq_eq_false_iff_ne]
    intro q
    exact hl (List.length_eq_zero_iff.1 (by omega))
   refine zh 28 Tryz.func34 rfl rfl rfl rfl ?_
   intro s w he
   repeat' (first
|apply zCc ([(1,[1]),(3,[1]),(5,[1])]) ([(9,[3]),(10,[3])]) ([(9,3)]) rfl (by kernel_rfl) (by kernel_rfl) (by kernel_rfl) (by intro p hp; simp only [List.mem_cons,List.not_mem_nil,or_false] at hp; rcases hp with rfl <;> (repeat' (first | exact fresh_S rfl | refine fresh_put ?_ rfl | refine fresh_res ?_ rfl rfl)))
|apply h_nil
|apply zDO rfl rfl rfl rfl
 . conv => lhs; whnf; arg 1; whnf
 . rfl
 . rfl
 . kernel_rfl
|apply h_val rfl
 . conv => lhs; whnf
 . conv => lhs; whnf; arg 2; whnf
 . kernel_rfl
|apply h_lit0 rfl rfl rfl rfl
 . first | (conv => lhs; whnf; arg 1; whnf)
 . rfl
 . kernel_rfl
|apply zDN rfl rfl rfl
 . conv => lhs; whnf
 . rfl
 . conv => lhs; whnf; arg 1; whnf
 . conv => lhs; whnf; arg 1; whnf
 . exact ⟨by kernel_rfl,by kernel_rfl⟩
 . rfl
 . kernel_rfl
|apply h_call rfl
 . conv => lhs; whnf
 . conv => lhs; whnf
 . first | exact h1 | exact h2
 . kernel_rfl
|show inO _ _ = true; rfl
|apply zAo ((.agg (cellsV Tryz.prog 12 47 (zBD kind [] (pkS k (zCn kind) l))))) rfl rfl
 . conv => lhs; whnf; arg 2; whnf
 . repeat' (first | exact VLe.refl _ | exact VLe.nil _ | exact VLe.lit _ _ | exact VLe.own _ _ _ | apply VLe.agg | apply VLeL.cons | exact VLeL.nil)
|apply zA2 [zBD kind [] (pkS k (zCn kind) l)] rfl rfl
 . conv => lhs; whnf
 . first | (conv => lhs; whnf; arg 1; whnf)
 . rfl
 . rfl
 . repeat' (first | exact trivial | apply And.intro | rfl)
|apply zT
 . conv => lhs; whnf
 . assumption
|apply zQ
 . conv => lhs; whnf
 . assumption
|apply zBV 1 (HQ0 kind l) rfl
|refine zj ?_
|refine za ?_
|refine zAb ?_
|refine zB ?_
|refine zM ?_
|refine zk ?_
|refine zV ?_
|refine zd ?_
|apply aw_1
 conv => whnf
 refine ⟨?_,trivial⟩
|apply s_1
 conv => whnf; arg 1; arg 4; arg 3; whnf
 refine ⟨?_,?_⟩
|apply z7 rfl
 . conv => lhs; whnf
 . conv => lhs; whnf; arg 2; whnf
|apply zl rfl
 . conv => lhs; whnf
 . conv => lhs; whnf
 . first | exact h1 | exact h2
|apply zAV rfl rfl rfl rfl
 . conv => lhs; whnf; arg 1; whnf
 . rfl
|apply zr rfl rfl rfl rfl
 . conv => lhs; whnf; arg 1; whnf
 . rfl
|apply zq rfl rfl rfl
 . conv => lhs; whnf
 . conv => lhs; whnf; arg 1; whnf
 . conv => lhs; whnf; arg 1; whnf
 . exact ⟨by kernel_rfl,by kernel_rfl⟩
 . rfl
|apply zAU rfl rfl
 . conv => lhs; whnf
 . first | (conv => lhs; whnf; arg 1; whnf)
|apply zAT rfl rfl
 . conv => lhs; whnf
 . first | (conv => lhs; whnf; arg 1; whnf)
 . conv => lhs; whnf; arg 1; whnf
 . rfl
 . rfl
|apply zw (by kernel_rfl) (by kernel_rfl)
|apply zAd
|apply zAc rfl
 . conv => lhs; whnf
 . conv => lhs; whnf; arg 2; whnf
|apply zAQ rfl
 . conv => lhs; whnf
 . conv => lhs; whnf
 . first | exact h1 | exact h2
|apply zAD rfl rfl rfl
 . conv => lhs; whnf
 . rfl
 . rfl
 . conv => lhs; whnf; arg 1; whnf
 . conv => lhs; whnf; arg 1; whnf
 . exact ⟨by kernel_rfl,by kernel_rfl⟩
 . rfl
|apply zAa rfl rfl
 . conv => lhs; whnf
 . first | (conv => lhs; whnf; arg 1; whnf)
|apply zAZ rfl rfl
 . conv => lhs; whnf
 . first | (conv => lhs; whnf; arg 1; whnf)
 . conv => lhs; whnf; arg 1; whnf
 . rfl
 . rfl
|exact zX
|exact ze
|exact all_nil
|show List.all _ _ = true; rfl
|show zAB _ _ = true; rfl
|exact ([] : List Nat)
|exact (1000000 : Nat)
|apply zN
 . conv => lhs; whnf; arg 1; arg 1; whnf
|apply zO
 . conv => lhs; whnf; arg 1; arg 1; whnf
|refine zW (by conv => lhs; whnf) ?_ ?_ <;> intro hb
|refine zn ?_
|refine zb ?_
|refine zH ?_
|refine zL ?_
|refine zG ?_
|refine zD rfl ?_
|refine zF rfl ?_
|refine zE ?_
|refine zJ ?_
|refine zC ?_
|refine zK ?_
|refine z8 ?_
|refine zI ?_
|refine ⟨_,by conv => lhs; whnf; arg 2; whnf,?_⟩; conv => rhs; whnf
|exact trivial
|intro hg)
   . exact Sub.live ⟨rfl,rfl,trivial⟩ ⟨rfl,rfl,trivial⟩
   all_goals rfl
theorem zHe (E0 : Ge) (k : Nat) (kind : Int) (l : List D) (h : CpP (k + 1) l) : AC E0 Tryz.prog 38 [.agg [.c (.int .i64 kind),.sl 82 l]] (.agg [.sl 47 [zBD kind [] (opSels (k + 1) kind l)],.sl 50 []]):=by
 have h1:=rootR_ac E0 kind
 have h2:=zEh E0 (k + 1) l (zCn kind) h
 have hres : VLe (.agg [.sl 47 [zBD kind [] (opSels (k + 1) kind l)],.c (.slice none 0 0)]) (.agg [.sl 47 [zBD kind [] (opSels (k + 1) kind l)],.sl 50 []]):=.agg (.cons (.refl _) (.cons (.nil _) .nil))
 refine AC.res ?_ hres
 by_cases hl : l = []
 . subst hl
   have e : opSels (k + 1) kind [] = [zDg]:=rfl
   rw [pkS_nil] at h2
   rw [e]
   refine zh 28 Tryz.func38 rfl rfl rfl rfl ?_
   intro s w he
   repeat' (first
|apply zAo ((.agg (cellsV Tryz.prog 12 62 (vD31 1 1 ⟨#[]⟩)))) rfl rfl
 . conv => lhs; whnf; arg 2; whnf
 . repeat' (first | exact VLe.refl _ | exact VLe.nil _ | exact VLe.lit _ _ | exact VLe.own _ _ _ | apply VLe.agg | apply VLeL.cons | exact VLeL.nil)
|apply zAo ((.agg (cellsV Tryz.prog 12 68 ifA))) rfl rfl
 . conv => lhs; whnf; arg 2; whnf
 . repeat' (first | exact VLe.refl _ | exact VLe.nil _ | exact VLe.lit _ _ | exact VLe.own _ _ _ | apply VLe.agg | apply VLeL.cons | exact VLeL.nil)
|apply zAo ((.agg (cellsV Tryz.prog 12 129 skipX))) rfl rfl
 . conv => lhs; whnf; arg 2; whnf
 . repeat' (first | exact VLe.refl _ | exact VLe.nil _ | exact VLe.lit _ _ | exact VLe.own _ _ _ | apply VLe.agg | apply VLeL.cons | exact VLeL.nil)
|apply zAo ((.agg (cellsV Tryz.prog 12 57 zDg))) rfl rfl
 . conv => lhs; whnf; arg 2; whnf
 . repeat' (first | exact VLe.refl _ | exact VLe.nil _ | exact VLe.lit _ _ | exact VLe.own _ _ _ | apply VLe.agg | apply VLeL.cons | exact VLeL.nil)
|apply zAo ((.agg (cellsV Tryz.prog 12 47 (zBD kind [] [zDg])))) rfl rfl
 . conv => lhs; whnf; arg 2; whnf
 . repeat' (first | exact VLe.refl _ | exact VLe.nil _ | exact VLe.lit _ _ | exact VLe.own _ _ _ | apply VLe.agg | apply VLeL.cons | exact VLeL.nil)
|apply zA2 [ifA] rfl rfl
 . conv => lhs; whnf
 . first | (conv => lhs; whnf; arg 1; whnf)
 . rfl
 . rfl
 . repeat' (first | exact trivial | apply And.intro | rfl)
|apply zA2 [skipX] rfl rfl
 . conv => lhs; whnf
 . first | (conv => lhs; whnf; arg 1; whnf)
 . rfl
 . rfl
 . repeat' (first | exact trivial | apply And.intro | rfl)
|apply zA2 [zDg] rfl rfl
 . conv => lhs; whnf
 . first | (conv => lhs; whnf; arg 1; whnf)
 . rfl
 . rfl
 . repeat' (first | exact trivial | apply And.intro | rfl)
|apply zA2 [zBD kind [] [zDg]] rfl rfl
 . conv => lhs; whnf
 . first | (conv => lhs; whnf; arg 1; whnf)
 . rfl
 . rfl
 . repeat' (first | exact trivial | apply And.intro | rfl)
|apply zT
 . conv => lhs; whnf
 . assumption
|apply zQ
 . conv => lhs; whnf
 . assumption
|refine zj ?_
|refine za ?_
|refine zAb ?_
|refine zB ?_
|refine zM ?_
|refine zk ?_
|refine zV ?_
|refine zd ?_
|apply aw_1
 conv => whnf
 refine ⟨?_,trivial⟩
|apply s_1
 conv => whnf; arg 1; arg 4; arg 3; whnf
 refine ⟨?_,?_⟩
|apply z7 rfl
 . conv => lhs; whnf
 . conv => lhs; whnf; arg 2; whnf
|apply zl rfl
 . conv => lhs; whnf
 . conv => lhs; whnf
 . first | exact h1 | exact h2
|apply zAV rfl rfl rfl rfl
 . conv => lhs; whnf; arg 1; whnf
 . rfl
|apply zr rfl rfl rfl rfl
 . conv => lhs; whnf; arg 1; whnf
 . rfl
|apply zq rfl rfl rfl
 . conv => lhs; whnf
 . conv => lhs; whnf; arg 1; whnf
 . conv => lhs; whnf; arg 1; whnf
 . exact ⟨by kernel_rfl,by kernel_rfl⟩
 . rfl
|apply zAU rfl rfl
 . conv => lhs; whnf
 . first | (conv => lhs; whnf; arg 1; whnf)
|apply zAT rfl rfl
 . conv => lhs; whnf
 . first | (conv => lhs; whnf; arg 1; whnf)
 . conv => lhs; whnf; arg 1; whnf
 . rfl
 . rfl
|apply zw (by kernel_rfl) (by kernel_rfl)
|apply zAd
|apply zAc rfl
 . conv => lhs; whnf
 . conv => lhs; whnf; arg 2; whnf
|apply zAQ rfl
 . conv => lhs; whnf
 . conv => lhs; whnf
 . first | exact h1 | exact h2
|apply zAD rfl rfl rfl
 . conv => lhs; whnf
 . rfl
 . rfl
 . conv => lhs; whnf; arg 1; whnf
 . conv => lhs; whnf; arg 1; whnf
 . exact ⟨by kernel_rfl,by kernel_rfl⟩
 . rfl
|apply zAa rfl rfl
 . conv => lhs; whnf
 . first | (conv => lhs; whnf; arg 1; whnf)
|apply zAZ rfl rfl
 . conv => lhs; whnf
 . first | (conv => lhs; whnf; arg 1; whnf)
 . conv => lhs; whnf; arg 1; whnf
 . rfl
 . rfl
|exact zX
|exact ze
|exact all_nil
|show List.all _ _ = true; rfl
|show zAB _ _ = true; rfl
|exact ([] : List Nat)
|exact (1000000 : Nat)
|apply zN
 . conv => lhs; whnf; arg 1; arg 1; whnf
|apply zO
 . conv => lhs; whnf; arg 1; arg 1; whnf
|refine zW (by conv => lhs; whnf) ?_ ?_ <;> intro hb
|refine zn ?_
|refine zb ?_
|refine zH ?_
|refine zL ?_
|refine zG ?_
|refine zD rfl ?_
|refine zF rfl ?_
|refine zE ?_
|refine zJ ?_
|refine zC ?_
|refine zK ?_
|refine z8 ?_
|refine zI ?_
|refine ⟨_,by conv => lhs; whnf; arg 2; whnf,?_⟩; conv => rhs; whnf
|exact trivial
|intro hg)
   all_goals rfl
 . have e : opSels (k + 1) kind l = pkS (k + 1) (zCn kind) l:=by unfold opSels; rw [if_neg hl]
   rw [e]
   have hz : (((pkS (k + 1) (zCn kind) l).length : Int) == 0) = false:=by
    rw [beq_eq_false_iff_ne]
    intro q
    exact pkS_ne (k:=k) (on:=zCn kind) hl (List.length_eq_zero_iff.1 (by omega))
   refine zh 28 Tryz.func38 rfl rfl rfl rfl ?_
   intro s w he
   repeat' (first
|apply zAo ((.agg (cellsV Tryz.prog 12 47 (zBD kind [] (pkS (k + 1) (zCn kind) l))))) rfl rfl
 . conv => lhs; whnf; arg 2; whnf
 . repeat' (first | exact VLe.refl _ | exact VLe.nil _ | exact VLe.lit _ _ | exact VLe.own _ _ _ | apply VLe.agg | apply VLeL.cons | exact VLeL.nil)
|apply zA2 [zBD kind [] (pkS (k + 1) (zCn kind) l)] rfl rfl
 . conv => lhs; whnf
 . first | (conv => lhs; whnf; arg 1; whnf)
 . rfl
 . rfl
 . repeat' (first | exact trivial | apply And.intro | rfl)
|apply zT
 . conv => lhs; whnf
 . assumption
|apply zQ
 . conv => lhs; whnf
 . assumption
|refine zj ?_
|refine za ?_
|refine zAb ?_
|refine zB ?_
|refine zM ?_
|refine zk ?_
|refine zV ?_
|refine zd ?_
|apply aw_1
 conv => whnf
 refine ⟨?_,trivial⟩
|apply s_1
 conv => whnf; arg 1; arg 4; arg 3; whnf
 refine ⟨?_,?_⟩
|apply z7 rfl
 . conv => lhs; whnf
 . conv => lhs; whnf; arg 2; whnf
|apply zl rfl
 . conv => lhs; whnf
 . conv => lhs; whnf
 . first | exact h1 | exact h2
|apply zAV rfl rfl rfl rfl
 . conv => lhs; whnf; arg 1; whnf
 . rfl
|apply zr rfl rfl rfl rfl
 . conv => lhs; whnf; arg 1; whnf
 . rfl
|apply zq rfl rfl rfl
 . conv => lhs; whnf
 . conv => lhs; whnf; arg 1; whnf
 . conv => lhs; whnf; arg 1; whnf
 . exact ⟨by kernel_rfl,by kernel_rfl⟩
 . rfl
|apply zAU rfl rfl
 . conv => lhs; whnf
 . first | (conv => lhs; whnf; arg 1; whnf)
|apply zAT rfl rfl
 . conv => lhs; whnf
 . first | (conv => lhs; whnf; arg 1; whnf)
 . conv => lhs; whnf; arg 1; whnf
 . rfl
 . rfl
|apply zw (by kernel_rfl) (by kernel_rfl)
|apply zAd
|apply zAc rfl
 . conv => lhs; whnf
 . conv => lhs; whnf; arg 2; whnf
|apply zAQ rfl
 . conv => lhs; whnf
 . conv => lhs; whnf
 . first | exact h1 | exact h2
|apply zAD rfl rfl rfl
 . conv => lhs; whnf
 . rfl
 . rfl
 . conv => lhs; whnf; arg 1; whnf
 . conv => lhs; whnf; arg 1; whnf
 . exact ⟨by kernel_rfl,by kernel_rfl⟩
 . rfl
|apply zAa rfl rfl
 . conv => lhs; whnf
 . first | (conv => lhs; whnf; arg 1; whnf)
|apply zAZ rfl rfl
 . conv => lhs; whnf
 . first | (conv => lhs; whnf; arg 1; whnf)
 . conv => lhs; whnf; arg 1; whnf
 . rfl
 . rfl
|exact zX
|exact ze
|exact all_nil
|show List.all _ _ = true; rfl
|show zAB _ _ = true; rfl
|exact ([] : List Nat)
|exact (1000000 : Nat)
|apply zN
 . conv => lhs; whnf; arg 1; arg 1; whnf
|apply zO
 . conv => lhs; whnf; arg 1; arg 1; whnf
|refine zW (by conv => lhs; whnf) ?_ ?_ <;> intro hb
|refine zn ?_
|refine zb ?_
|refine zH ?_
|refine zL ?_
|refine zG ?_
|refine zD rfl ?_
|refine zF rfl ?_
|refine zE ?_
|refine zJ ?_
|refine zC ?_
|refine zK ?_
|refine z8 ?_
|refine zI ?_
|refine ⟨_,by conv => lhs; whnf; arg 2; whnf,?_⟩; conv => rhs; whnf
|exact trivial
|intro hg)
   all_goals rfl
theorem namedP_ac (E0 : Ge) (s : ByteArray) : AC E0 Tryz.prog 37 [.c (.string s)] (.agg [.c (.string s),.sl 3 []]):=by
 refine AC.res (r:=.agg [.c (.string s),.c (.slice none 0 0)]) ?_ (.agg (.cons (.refl _) (.cons (.nil _) .nil)))
 refine zh 5 Tryz.func37 rfl rfl rfl rfl ?_
 intro w0 w he
 repeat' (first
|refine zB ?_
|refine zM ?_
|refine zk ?_
|refine zV ?_
|refine zd ?_
|apply aw_1
 conv => whnf
 refine ⟨?_,trivial⟩
|apply s_1
 conv => whnf; arg 1; arg 4; arg 3; whnf
 refine ⟨?_,?_⟩
|apply z7 rfl
 . conv => lhs; whnf
 . conv => lhs; whnf; arg 2; whnf
|apply zr rfl rfl rfl rfl
 . conv => lhs; whnf; arg 1; whnf
 . rfl
|apply zq rfl rfl rfl
 . conv => lhs; whnf
 . conv => lhs; whnf; arg 1; whnf
 . conv => lhs; whnf; arg 1; whnf
 . exact ⟨by kernel_rfl,by kernel_rfl⟩
 . rfl
|apply zN
 . conv => lhs; whnf; arg 1; arg 1; whnf
|apply zO
 . conv => lhs; whnf; arg 1; arg 1; whnf
|refine zW (by conv => lhs; whnf) ?_ ?_ <;> intro hb
|refine zn ?_
|refine zb ?_
|refine zH ?_
|refine zL ?_
|refine zG ?_
|refine zD rfl ?_
|refine zF rfl ?_
|refine zE ?_
|refine zJ ?_
|refine zC ?_
|refine zK ?_
|refine z8 ?_
|refine zI ?_
|refine ⟨_,by conv => lhs; whnf; arg 2; whnf,?_⟩; conv => rhs; whnf
|exact trivial
|intro hg)
 rfl
def anyS : ByteArray:=⟨#[95,65,110,121]⟩
theorem isNon0_ac (E0 : Ge) : AC E0 Tryz.prog 69 [.agg [.c (.string anyS),.sl 3 []]] (.c (.bool false)) /\ AC E0 Tryz.prog 69 [.agg [.c (.string anyS),.sl 3 [.int 2,.int 1]]] (.c (.bool false)):=by
 refine ⟨?_,?_⟩
 all_goals
  refine zh 14 Tryz.func69 rfl rfl rfl rfl ?_
  intro w0 w he
  repeat' (first
|apply s_wanted_pick_t rfl rfl rfl
 . conv => lhs; whnf
 . first | rfl | assumption | decide +kernel
 . conv => lhs; whnf
 . first | decide +kernel | rfl
|apply zAL rfl rfl rfl
 . conv => lhs; whnf
 . first | rfl | assumption | decide +kernel
 . conv => lhs; whnf
 . first | decide +kernel | rfl
|apply s_wanted_pick_f rfl rfl rfl
 . conv => lhs; whnf
 . first | rfl | assumption | decide +kernel
 . conv => lhs; whnf
 . first | decide +kernel | rfl
|apply zAM rfl rfl rfl
 . conv => lhs; whnf
 . first | rfl | assumption | decide +kernel
 . conv => lhs; whnf
 . first | decide +kernel | rfl
|apply zCN 7
|refine k_rnd ?_
|refine zBt ?_
|refine zCG ?_
|apply zT
 . conv => lhs; whnf
 . decide +kernel
|apply zQ
 . conv => lhs; whnf
 . decide +kernel
|refine zB ?_
|refine zM ?_
|refine zk ?_
|refine zV ?_
|refine zd ?_
|apply aw_1
 conv => whnf
 refine ⟨?_,trivial⟩
|apply zp rfl rfl
 . conv => lhs; whnf
 . conv => lhs; whnf
 . first | decide +kernel
|apply zo rfl rfl
 . conv => lhs; whnf
 . conv => lhs; whnf
 . first | decide +kernel
|apply s_1
 conv => whnf; arg 1; arg 4; arg 3; whnf
 refine ⟨?_,?_⟩
|apply z7 rfl
 . conv => lhs; whnf
 . conv => lhs; whnf; arg 2; whnf
|apply zAV rfl rfl rfl rfl
 . conv => lhs; whnf; arg 1; whnf
 . rfl
|apply zS rfl
 . conv => lhs; whnf
 . conv => lhs; whnf
 . first | rfl | assumption | decide +kernel
 . conv => lhs; whnf; arg 2; whnf
|apply zR rfl
 . conv => lhs; whnf
 . conv => lhs; whnf
 . first | rfl | assumption | decide +kernel
 . conv => lhs; whnf
 . first | fail
|apply zAI rfl
 . conv => lhs; whnf
 . conv => lhs; whnf
 . first | rfl | assumption | decide +kernel
|apply zAy rfl
 . conv => lhs; whnf
 . rfl
 . rfl
|apply zf rfl
 . conv => lhs; whnf
 . conv => lhs; whnf
 . conv => lhs; whnf; arg 2; whnf
|apply zu rfl
 . conv => lhs; whnf
 . conv => lhs; whnf
 . conv => lhs; whnf
 . first | fail
|apply zm rfl
 . conv => lhs; whnf
 . conv => lhs; whnf
 . conv => lhs; whnf; arg 2; whnf
|apply zi rfl
 . conv => lhs; whnf
 . conv => lhs; whnf
 . conv => lhs; whnf
 . first | fail
|apply zN
 . conv => lhs; whnf; arg 1; arg 1; whnf
|apply zO
 . conv => lhs; whnf; arg 1; arg 1; whnf
|refine zW (by conv => lhs; whnf) ?_ ?_ <;> intro hb
|refine zn ?_
|refine zb ?_
|refine zH ?_
|refine zL ?_
|refine zG ?_
|refine zD rfl ?_
|refine zF rfl ?_
|refine zE ?_
|refine zJ ?_
|refine zC ?_
|refine zK ?_
|refine z8 ?_
|refine zI ?_
|refine ⟨_,by conv => lhs; whnf; arg 2; whnf,?_⟩; conv => rhs; whnf
|exact trivial
|intro hg)
  all_goals first
   | kernel_rfl
   | (constructor <;> decide)
theorem zGr (E0 : Ge) : AC E0 Tryz.prog 35 [.agg [.c (.string anyS),.sl 3 []]] (.agg [.c (.string anyS),.sl 3 [.int 1]]) /\ AC E0 Tryz.prog 35 [.agg [.c (.string anyS),.sl 3 [.int 2,.int 1]]] (.agg [.c (.string anyS),.sl 3 [.int 1,.int 2,.int 1]]):=by
 have h:=isNon0_ac E0
 refine ⟨?_,?_⟩
 all_goals
  refine zh 18 Tryz.func35 rfl rfl rfl rfl ?_
  intro w0 w he
  repeat' (first
|apply zA2 [.int 1] rfl rfl
 . conv => lhs; whnf
 . first | exact zAm | (conv => lhs; whnf; arg 1; whnf)
 . rfl
 . rfl
 . repeat' (first | exact trivial | apply And.intro | rfl)
|apply zCN 7
|refine k_rnd ?_
|refine zBt ?_
|refine zCG ?_
|apply zT
 . conv => lhs; whnf
 . decide +kernel
|apply zQ
 . conv => lhs; whnf
 . decide +kernel
|refine zB ?_
|refine zM ?_
|refine zk ?_
|refine zV ?_
|refine zd ?_
|apply aw_1
 conv => whnf
 refine ⟨?_,trivial⟩
|apply s_1
 conv => whnf; arg 1; arg 4; arg 3; whnf
 refine ⟨?_,?_⟩
|apply z7 rfl
 . conv => lhs; whnf
 . conv => lhs; whnf; arg 2; whnf
|apply zl rfl
 . conv => lhs; whnf
 . conv => lhs; whnf
 . first | exact h.1 | exact h.2
|apply zAV rfl rfl rfl rfl
 . conv => lhs; whnf; arg 1; whnf
 . rfl
|apply zr rfl rfl rfl rfl
 . conv => lhs; whnf; arg 1; whnf
 . rfl
|apply zq rfl rfl rfl
 . conv => lhs; whnf
 . conv => lhs; whnf; arg 1; whnf
 . conv => lhs; whnf; arg 1; whnf
 . exact ⟨by kernel_rfl,by kernel_rfl⟩
 . rfl
|apply zAu rfl rfl
 . conv => lhs; whnf
 . first | exact zAm | (conv => lhs; whnf; arg 1; whnf)
 . first | exact fun _ => rfl | (intro _; kernel_rfl)
 . conv => lhs; whnf
 . conv => lhs; whnf; arg 1; whnf
 . conv => lhs; whnf
|apply zx rfl rfl rfl rfl
 . first | exact zAm | (conv => lhs; whnf; arg 1; whnf)
 . first | exact fun _ => rfl | (intro _; kernel_rfl)
 . conv => lhs; whnf
 . conv => lhs; whnf
|apply zAU rfl rfl
 . conv => lhs; whnf
 . first | exact zAm | (conv => lhs; whnf; arg 1; whnf)
|apply zAT rfl rfl
 . conv => lhs; whnf
 . first | exact zAm | (conv => lhs; whnf; arg 1; whnf)
 . conv => lhs; whnf; arg 1; whnf
 . rfl
 . rfl
|apply zAO rfl rfl
 . conv => lhs; whnf
 . first | exact zAm | (conv => lhs; whnf; arg 1; whnf)
 . first | exact fun _ => rfl | (intro _; kernel_rfl)
 . conv => lhs; whnf
 . conv => lhs; whnf
|apply zw (by kernel_rfl) (by kernel_rfl)
|apply zAd
|apply zAc rfl
 . conv => lhs; whnf
 . conv => lhs; whnf; arg 2; whnf
|apply zAQ rfl
 . conv => lhs; whnf
 . conv => lhs; whnf
 . first | exact h.1 | exact h.2
|apply zAD rfl rfl rfl
 . conv => lhs; whnf
 . rfl
 . rfl
 . conv => lhs; whnf; arg 1; whnf
 . conv => lhs; whnf; arg 1; whnf
 . exact ⟨by kernel_rfl,by kernel_rfl⟩
 . rfl
|apply zAz rfl rfl
 . conv => lhs; whnf
 . first | exact zAm | (conv => lhs; whnf; arg 1; whnf)
 . first | exact fun _ => rfl | (intro _; kernel_rfl)
 . conv => lhs; whnf
 . rfl
 . rfl
 . conv => lhs; whnf; arg 1; whnf
 . conv => lhs; whnf
|apply zAa rfl rfl
 . conv => lhs; whnf
 . first | exact zAm | (conv => lhs; whnf; arg 1; whnf)
|apply zAZ rfl rfl
 . conv => lhs; whnf
 . first | exact zAm | (conv => lhs; whnf; arg 1; whnf)
 . conv => lhs; whnf; arg 1; whnf
 . rfl
 . rfl
|apply zAS rfl rfl
 . conv => lhs; whnf
 . first | exact zAm | (conv => lhs; whnf; arg 1; whnf)
 . first | exact fun _ => rfl | (intro _; kernel_rfl)
 . conv => lhs; whnf
 . conv => lhs; whnf
|exact zX
|exact ze
|exact all_nil
|show List.all _ _ = true; rfl
|show zAB _ _ = true; rfl
|exact ([] : List Nat)
|exact (1000000 : Nat)
|apply zN
 . conv => lhs; whnf; arg 1; arg 1; whnf
|apply zO
 . conv => lhs; whnf; arg 1; arg 1; whnf
|refine zW (by conv => lhs; whnf) ?_ ?_ <;> intro hb
|refine zn ?_
|refine zb ?_
|refine zH ?_
|refine zL ?_
|refine zG ?_
|refine zD rfl ?_
|refine zF rfl ?_
|refine zE ?_
|refine zJ ?_
|refine zC ?_
|refine zK ?_
|refine z8 ?_
|refine zI ?_
|refine ⟨_,by conv => lhs; whnf; arg 2; whnf,?_⟩; conv => rhs; whnf
|exact trivial
|intro hg)
  all_goals first
   | rfl
   | (constructor <;> decide)
theorem listOf0_ac (E0 : Ge) : AC E0 Tryz.prog 36 [.agg [.c (.string anyS),.sl 3 [.int 1]]] (.agg [.c (.string anyS),.sl 3 [.int 2,.int 1]]):=by
 refine zh 10 Tryz.func36 rfl rfl rfl rfl ?_
 intro w0 w he
 repeat' (first
|apply zCN 7
|refine k_rnd ?_
|refine zBt ?_
|refine zCG ?_
|apply zT
 . conv => lhs; whnf
 . decide +kernel
|apply zQ
 . conv => lhs; whnf
 . decide +kernel
|refine zB ?_
|refine zM ?_
|refine zk ?_
|refine zV ?_
|refine zd ?_
|apply aw_1
 conv => whnf
 refine ⟨?_,trivial⟩
|apply s_1
 conv => whnf; arg 1; arg 4; arg 3; whnf
 refine ⟨?_,?_⟩
|apply z7 rfl
 . conv => lhs; whnf
 . conv => lhs; whnf; arg 2; whnf
|apply zAV rfl rfl rfl rfl
 . conv => lhs; whnf; arg 1; whnf
 . rfl
|apply zr rfl rfl rfl rfl
 . conv => lhs; whnf; arg 1; whnf
 . rfl
|apply zq rfl rfl rfl
 . conv => lhs; whnf
 . conv => lhs; whnf; arg 1; whnf
 . conv => lhs; whnf; arg 1; whnf
 . exact ⟨by kernel_rfl,by kernel_rfl⟩
 . rfl
|apply zAu rfl rfl
 . conv => lhs; whnf
 . first | exact zAm | (conv => lhs; whnf; arg 1; whnf)
 . first | exact fun _ => rfl | (intro _; kernel_rfl)
 . conv => lhs; whnf
 . conv => lhs; whnf; arg 1; whnf
 . conv => lhs; whnf
|apply zx rfl rfl rfl rfl
 . first | exact zAm | (conv => lhs; whnf; arg 1; whnf)
 . first | exact fun _ => rfl | (intro _; kernel_rfl)
 . conv => lhs; whnf
 . conv => lhs; whnf
|apply zAU rfl rfl
 . conv => lhs; whnf
 . first | exact zAm | (conv => lhs; whnf; arg 1; whnf)
|apply zAT rfl rfl
 . conv => lhs; whnf
 . first | exact zAm | (conv => lhs; whnf; arg 1; whnf)
 . conv => lhs; whnf; arg 1; whnf
 . rfl
 . rfl
|apply zAO rfl rfl
 . conv => lhs; whnf
 . first | exact zAm | (conv => lhs; whnf; arg 1; whnf)
 . first | exact fun _ => rfl | (intro _; kernel_rfl)
 . conv => lhs; whnf
 . conv => lhs; whnf
|apply zw (by kernel_rfl) (by kernel_rfl)
|apply zAd
|apply zAc rfl
 . conv => lhs; whnf
 . conv => lhs; whnf; arg 2; whnf
|apply zAD rfl rfl rfl
 . conv => lhs; whnf
 . rfl
 . rfl
 . conv => lhs; whnf; arg 1; whnf
 . conv => lhs; whnf; arg 1; whnf
 . exact ⟨by kernel_rfl,by kernel_rfl⟩
 . rfl
|apply zAz rfl rfl
 . conv => lhs; whnf
 . first | exact zAm | (conv => lhs; whnf; arg 1; whnf)
 . first | exact fun _ => rfl | (intro _; kernel_rfl)
 . conv => lhs; whnf
 . rfl
 . rfl
 . conv => lhs; whnf; arg 1; whnf
 . conv => lhs; whnf
|apply zAa rfl rfl
 . conv => lhs; whnf
 . first | exact zAm | (conv => lhs; whnf; arg 1; whnf)
|apply zAZ rfl rfl
 . conv => lhs; whnf
 . first | exact zAm | (conv => lhs; whnf; arg 1; whnf)
 . conv => lhs; whnf; arg 1; whnf
 . rfl
 . rfl
|apply zAS rfl rfl
 . conv => lhs; whnf
 . first | exact zAm | (conv => lhs; whnf; arg 1; whnf)
 . first | exact fun _ => rfl | (intro _; kernel_rfl)
 . conv => lhs; whnf
 . conv => lhs; whnf
|exact zX
|exact ze
|exact all_nil
|show List.all _ _ = true; rfl
|show zAB _ _ = true; rfl
|exact ([] : List Nat)
|exact (1000000 : Nat)
|apply zN
 . conv => lhs; whnf; arg 1; arg 1; whnf
|apply zO
 . conv => lhs; whnf; arg 1; arg 1; whnf
|refine zW (by conv => lhs; whnf) ?_ ?_ <;> intro hb
|refine zn ?_
|refine zb ?_
|refine zH ?_
|refine zL ?_
|refine zG ?_
|refine zD rfl ?_
|refine zF rfl ?_
|refine zE ?_
|refine zJ ?_
|refine zC ?_
|refine zK ?_
|refine z8 ?_
|refine zI ?_
|refine ⟨_,by conv => lhs; whnf; arg 2; whnf,?_⟩; conv => rhs; whnf
|exact trivial
|intro hg)
 all_goals first
  | rfl
  | (constructor <;> decide)
def repV : D:=vD31 7 0 ⟨#[114]⟩
def repA : D:=sArg ⟨#[114,101,112,114,101,115,101,110,116,97,116,105,111,110,115]⟩ repV
def fetchO (n : Nat) (f : D) (kind : Int) : List D:=
 if (f.f 2).l.length = 0 then [zBD kind [] (opSels n kind (f.f 6).l)] else [zBD 1 [zBZ] [entS (opSels n 1 (f.f 6).l)]]
theorem zHm (l : List D) : ((((l.length : Nat) : Int)) == 0) = decide (l.length = 0):=by rw [Bool.eq_iff_iff]; simp
theorem zEE (E0 : Ge) (k : Nat) (s f : D) (kind : Int) (h : CpP k (f.f 6).l) : AC E0 Tryz.prog 12 [.agg (cellsV Tryz.prog 12 35 s),.agg (cellsV Tryz.prog 12 40 f),.c (.int .i64 kind)] (.agg [.sl 47 (fetchO k f kind),.sl 50 []]):=by
 have h1:=zHf E0 k kind (f.f 6).l h
 have h2:=zHf E0 k 1 (f.f 6).l h
 have h3:=namedP_ac E0 anyS
 have h4:=zGr E0
 have h5:=listOf0_ac E0
 by_cases hz : (f.f 2).l.length = 0
 . have f0 : ((((f.f 2).l.length : Nat) : Int) == 0) = true:=by rw [zHm]; exact decide_eq_true hz
   have e : fetchO k f kind = [zBD kind [] (opSels k kind (f.f 6).l)]:=if_pos hz
   rw [e]
   refine zh 50 Tryz.func12 rfl rfl rfl rfl ?_
   intro w0 w he
   repeat' (first
|apply zT
 . conv => lhs; whnf
 . assumption
|apply zQ
 . conv => lhs; whnf
 . assumption
|refine zj ?_
|refine za ?_
|refine zAb ?_
|refine zB ?_
|refine zM ?_
|refine zk ?_
|refine zV ?_
|refine zd ?_
|apply aw_1
 conv => whnf
 refine ⟨?_,trivial⟩
|apply s_1
 conv => whnf; arg 1; arg 4; arg 3; whnf
 refine ⟨?_,?_⟩
|apply z7 rfl
 . conv => lhs; whnf
 . conv => lhs; whnf; arg 2; whnf
|apply zl rfl
 . conv => lhs; whnf
 . conv => lhs; whnf
 . first | exact h1
|apply zAV rfl rfl rfl rfl
 . conv => lhs; whnf; arg 1; whnf
 . rfl
|apply zr rfl rfl rfl rfl
 . conv => lhs; whnf; arg 1; whnf
 . rfl
|apply zq rfl rfl rfl
 . conv => lhs; whnf
 . conv => lhs; whnf; arg 1; whnf
 . conv => lhs; whnf; arg 1; whnf
 . exact ⟨by kernel_rfl,by kernel_rfl⟩
 . rfl
|apply zAU rfl rfl
 . conv => lhs; whnf
 . first | (conv => lhs; whnf; arg 1; whnf)
|apply zAT rfl rfl
 . conv => lhs; whnf
 . first | (conv => lhs; whnf; arg 1; whnf)
 . conv => lhs; whnf; arg 1; whnf
 . rfl
 . rfl
|apply zN
 . conv => lhs; whnf; arg 1; arg 1; whnf
|apply zO
 . conv => lhs; whnf; arg 1; arg 1; whnf
|refine zW (by conv => lhs; whnf) ?_ ?_ <;> intro hb
|refine zn ?_
|refine zb ?_
|refine zH ?_
|refine zL ?_
|refine zG ?_
|refine zD rfl ?_
|refine zF rfl ?_
|refine zE ?_
|refine zJ ?_
|refine zC ?_
|refine zK ?_
|refine z8 ?_
|refine zI ?_
|refine ⟨_,by conv => lhs; whnf; arg 2; whnf,?_⟩; conv => rhs; whnf
|exact trivial
|intro hg)
   rfl
 . have f0 : ((((f.f 2).l.length : Nat) : Int) == 0) = false:=by rw [zHm]; exact decide_eq_false hz
   have e : fetchO k f kind = [zBD 1 [zBZ] [entS (opSels k 1 (f.f 6).l)]]:=if_neg hz
   rw [e]
   generalize opSels k 1 (f.f 6).l = S at h2 |-
   refine AC.res (r:=.agg [.sl 47 [zBD 1 [zBZ] [entS S]],.c (.slice none 0 0)]) ?_ (.agg (.cons (.refl _) (.cons (.nil _) .nil)))
   refine zh 50 Tryz.func12 rfl rfl rfl rfl ?_
   intro w0 w he
   repeat' (first
|apply zAo ((.agg (cellsV Tryz.prog 12 62 repV))) rfl rfl
 . conv => lhs; whnf; arg 2; whnf
 . repeat' (first | exact VLe.refl _ | exact VLe.nil _ | exact VLe.lit _ _ | exact VLe.own _ _ _ | apply VLe.agg | apply VLeL.cons | exact VLeL.nil)
|apply zAo ((.agg (cellsV Tryz.prog 12 68 repA))) rfl rfl
 . conv => lhs; whnf; arg 2; whnf
 . repeat' (first | exact VLe.refl _ | exact VLe.nil _ | exact VLe.lit _ _ | exact VLe.own _ _ _ | apply VLe.agg | apply VLeL.cons | exact VLeL.nil)
|apply zAo ((.agg (cellsV Tryz.prog 12 57 (entS S)))) rfl rfl
 . conv => lhs; whnf; arg 2; whnf
 . repeat' (first | exact VLe.refl _ | exact VLe.nil _ | exact VLe.lit _ _ | exact VLe.own _ _ _ | apply VLe.agg | apply VLeL.cons | exact VLeL.nil)
|apply zAo ((.agg (cellsV Tryz.prog 12 64 zBZ))) rfl rfl
 . conv => lhs; whnf; arg 2; whnf
 . repeat' (first | exact VLe.refl _ | exact VLe.nil _ | exact VLe.lit _ _ | exact VLe.own _ _ _ | apply VLe.agg | apply VLeL.cons | exact VLeL.nil)
|apply zAo ((.agg (cellsV Tryz.prog 12 47 (zBD 1 [zBZ] [entS S])))) rfl rfl
 . conv => lhs; whnf; arg 2; whnf
 . repeat' (first | exact VLe.refl _ | exact VLe.nil _ | exact VLe.lit _ _ | exact VLe.own _ _ _ | apply VLe.agg | apply VLeL.cons | exact VLeL.nil)
|apply zA2 [repA] rfl rfl
 . conv => lhs; whnf
 . first | exact zAW | exact zAx | exact zU | exact zA4 | (conv => lhs; whnf; arg 1; whnf)
 . rfl
 . rfl
 . repeat' (first | exact trivial | apply And.intro | rfl)
|apply zA2 [zBZ] rfl rfl
 . conv => lhs; whnf
 . first | exact zAW | exact zAx | exact zU | exact zA4 | (conv => lhs; whnf; arg 1; whnf)
 . rfl
 . rfl
 . repeat' (first | exact trivial | apply And.intro | rfl)
|apply zA2 [entS S] rfl rfl
 . conv => lhs; whnf
 . first | exact zAW | exact zAx | exact zU | exact zA4 | (conv => lhs; whnf; arg 1; whnf)
 . rfl
 . rfl
 . repeat' (first | exact trivial | apply And.intro | rfl)
|apply zA2 [zBD 1 [zBZ] [entS S]] rfl rfl
 . conv => lhs; whnf
 . first | exact zAW | exact zAx | exact zU | exact zA4 | (conv => lhs; whnf; arg 1; whnf)
 . rfl
 . rfl
 . repeat' (first | exact trivial | apply And.intro | rfl)
|apply zT
 . conv => lhs; whnf
 . assumption
|apply zQ
 . conv => lhs; whnf
 . assumption
|refine zj ?_
|refine za ?_
|refine zAb ?_
|refine zB ?_
|refine zM ?_
|refine zk ?_
|refine zV ?_
|refine zd ?_
|apply aw_1
 conv => whnf
 refine ⟨?_,trivial⟩
|apply s_1
 conv => whnf; arg 1; arg 4; arg 3; whnf
 refine ⟨?_,?_⟩
|apply z7 rfl
 . conv => lhs; whnf
 . conv => lhs; whnf; arg 2; whnf
|apply zl rfl
 . conv => lhs; whnf
 . conv => lhs; whnf
 . first | exact h2 | exact h3 | exact h4.1 | exact h4.2 | exact h5
|apply zAV rfl rfl rfl rfl
 . conv => lhs; whnf; arg 1; whnf
 . rfl
|apply zr rfl rfl rfl rfl
 . conv => lhs; whnf; arg 1; whnf
 . rfl
|apply zq rfl rfl rfl
 . conv => lhs; whnf
 . conv => lhs; whnf; arg 1; whnf
 . conv => lhs; whnf; arg 1; whnf
 . exact ⟨by kernel_rfl,by kernel_rfl⟩
 . rfl
|apply zAU rfl rfl
 . conv => lhs; whnf
 . first | exact zAW | exact zAx | exact zU | exact zA4 | (conv => lhs; whnf; arg 1; whnf)
|apply zAT rfl rfl
 . conv => lhs; whnf
 . first | exact zAW | exact zAx | exact zU | exact zA4 | (conv => lhs; whnf; arg 1; whnf)
 . conv => lhs; whnf; arg 1; whnf
 . rfl
 . rfl
|apply zN
 . conv => lhs; whnf; arg 1; arg 1; whnf
|apply zO
 . conv => lhs; whnf; arg 1; arg 1; whnf
|refine zW (by conv => lhs; whnf) ?_ ?_ <;> intro hb
|refine zn ?_
|refine zb ?_
|refine zH ?_
|refine zL ?_
|refine zG ?_
|refine zD rfl ?_
|refine zF rfl ?_
|refine zE ?_
|refine zJ ?_
|refine zC ?_
|refine zK ?_
|refine z8 ?_
|refine zI ?_
|refine ⟨_,by conv => lhs; whnf; arg 2; whnf,?_⟩; conv => rhs; whnf
|exact trivial
|intro hg)
   all_goals first
    | rfl
    | exact ⟨by decide,by simp⟩
theorem zGR (E0 : Ge) (k : Nat) (s f : D) (kind : Int) (h : CpP (k + 1) (f.f 6).l) : AC E0 Tryz.prog 13 [.agg (cellsV Tryz.prog 12 35 s),.agg (cellsV Tryz.prog 12 40 f),.c (.int .i64 kind)] (.agg [.sl 47 (fetchO (k + 1) f kind),.sl 50 []]):=by
 have h1:=zHe E0 k kind (f.f 6).l h
 have h2:=zHe E0 k 1 (f.f 6).l h
 by_cases hz : (f.f 2).l.length = 0
 . have f0 : ((((f.f 2).l.length : Nat) : Int) == 0) = true:=by rw [zHm]; exact decide_eq_true hz
   have e : fetchO (k + 1) f kind = [zBD kind [] (opSels (k + 1) kind (f.f 6).l)]:=if_pos hz
   rw [e]
   refine zh 47 Tryz.func13 rfl rfl rfl rfl ?_
   intro w0 w he
   repeat' (first
|apply zT
 . conv => lhs; whnf
 . assumption
|apply zQ
 . conv => lhs; whnf
 . assumption
|refine zj ?_
|refine za ?_
|refine zAb ?_
|refine zB ?_
|refine zM ?_
|refine zk ?_
|refine zV ?_
|refine zd ?_
|apply aw_1
 conv => whnf
 refine ⟨?_,trivial⟩
|apply s_1
 conv => whnf; arg 1; arg 4; arg 3; whnf
 refine ⟨?_,?_⟩
|apply z7 rfl
 . conv => lhs; whnf
 . conv => lhs; whnf; arg 2; whnf
|apply zl rfl
 . conv => lhs; whnf
 . conv => lhs; whnf
 . first | exact h1
|apply zAV rfl rfl rfl rfl
 . conv => lhs; whnf; arg 1; whnf
 . rfl
|apply zr rfl rfl rfl rfl
 . conv => lhs; whnf; arg 1; whnf
 . rfl
|apply zq rfl rfl rfl
 . conv => lhs; whnf
 . conv => lhs; whnf; arg 1; whnf
 . conv => lhs; whnf; arg 1; whnf
 . exact ⟨by kernel_rfl,by kernel_rfl⟩
 . rfl
|apply zAU rfl rfl
 . conv => lhs; whnf
 . first | (conv => lhs; whnf; arg 1; whnf)
|apply zAT rfl rfl
 . conv => lhs; whnf
 . first | (conv => lhs; whnf; arg 1; whnf)
 . conv => lhs; whnf; arg 1; whnf
 . rfl
 . rfl
|apply zN
 . conv => lhs; whnf; arg 1; arg 1; whnf
|apply zO
 . conv => lhs; whnf; arg 1; arg 1; whnf
|refine zW (by conv => lhs; whnf) ?_ ?_ <;> intro hb
|refine zn ?_
|refine zb ?_
|refine zH ?_
|refine zL ?_
|refine zG ?_
|refine zD rfl ?_
|refine zF rfl ?_
|refine zE ?_
|refine zJ ?_
|refine zC ?_
|refine zK ?_
|refine z8 ?_
|refine zI ?_
|refine ⟨_,by conv => lhs; whnf; arg 2; whnf,?_⟩; conv => rhs; whnf
|exact trivial
|intro hg)
   rfl
 . have f0 : ((((f.f 2).l.length : Nat) : Int) == 0) = false:=by rw [zHm]; exact decide_eq_false hz
   have e : fetchO (k + 1) f kind = [zBD 1 [zBZ] [entS (opSels (k + 1) 1 (f.f 6).l)]]:=if_neg hz
   rw [e]
   generalize opSels (k + 1) 1 (f.f 6).l = S at h2 |-
   refine AC.res (r:=.agg [.sl 47 [zBD 1 [zBZ] [entS S]],.c (.slice none 0 0)]) ?_ (.agg (.cons (.refl _) (.cons (.nil _) .nil)))
   refine zh 47 Tryz.func13 rfl rfl rfl rfl ?_
   intro w0 w he
   repeat' (first
|apply zAo ((.agg (cellsV Tryz.prog 12 62 repV))) rfl rfl
 . conv => lhs; whnf; arg 2; whnf
 . repeat' (first | exact VLe.refl _ | exact VLe.nil _ | exact VLe.lit _ _ | exact VLe.own _ _ _ | apply VLe.agg | apply VLeL.cons | exact VLeL.nil)
|apply zAo ((.agg (cellsV Tryz.prog 12 68 repA))) rfl rfl
 . conv => lhs; whnf; arg 2; whnf
 . repeat' (first | exact VLe.refl _ | exact VLe.nil _ | exact VLe.lit _ _ | exact VLe.own _ _ _ | apply VLe.agg | apply VLeL.cons | exact VLeL.nil)
|apply zAo ((.agg (cellsV Tryz.prog 12 57 (entS S)))) rfl rfl
 . conv => lhs; whnf; arg 2; whnf
 . repeat' (first | exact VLe.refl _ | exact VLe.nil _ | exact VLe.lit _ _ | exact VLe.own _ _ _ | apply VLe.agg | apply VLeL.cons | exact VLeL.nil)
|apply zAo ((.agg (cellsV Tryz.prog 12 64 zBZ))) rfl rfl
 . conv => lhs; whnf; arg 2; whnf
 . repeat' (first | exact VLe.refl _ | exact VLe.nil _ | exact VLe.lit _ _ | exact VLe.own _ _ _ | apply VLe.agg | apply VLeL.cons | exact VLeL.nil)
|apply zAo ((.agg (cellsV Tryz.prog 12 47 (zBD 1 [zBZ] [entS S])))) rfl rfl
 . conv => lhs; whnf; arg 2; whnf
 . repeat' (first | exact VLe.refl _ | exact VLe.nil _ | exact VLe.lit _ _ | exact VLe.own _ _ _ | apply VLe.agg | apply VLeL.cons | exact VLeL.nil)
|apply zA2 [.int 1,.int 2,.int 1] rfl rfl
 . conv => lhs; whnf
 . first | exact zAW | exact zAx | exact zU | exact zA4 | exact zAm | (conv => lhs; whnf; arg 1; whnf)
 . rfl
 . rfl
 . repeat' (first | exact trivial | apply And.intro | rfl)
|apply zA2 [repA] rfl rfl
 . conv => lhs; whnf
 . first | exact zAW | exact zAx | exact zU | exact zA4 | exact zAm | (conv => lhs; whnf; arg 1; whnf)
 . rfl
 . rfl
 . repeat' (first | exact trivial | apply And.intro | rfl)
|apply zA2 [zBZ] rfl rfl
 . conv => lhs; whnf
 . first | exact zAW | exact zAx | exact zU | exact zA4 | exact zAm | (conv => lhs; whnf; arg 1; whnf)
 . rfl
 . rfl
 . repeat' (first | exact trivial | apply And.intro | rfl)
|apply zA2 [entS S] rfl rfl
 . conv => lhs; whnf
 . first | exact zAW | exact zAx | exact zU | exact zA4 | exact zAm | (conv => lhs; whnf; arg 1; whnf)
 . rfl
 . rfl
 . repeat' (first | exact trivial | apply And.intro | rfl)
|apply zA2 [zBD 1 [zBZ] [entS S]] rfl rfl
 . conv => lhs; whnf
 . first | exact zAW | exact zAx | exact zU | exact zA4 | exact zAm | (conv => lhs; whnf; arg 1; whnf)
 . rfl
 . rfl
 . repeat' (first | exact trivial | apply And.intro | rfl)
|apply zT
 . conv => lhs; whnf
 . assumption
|apply zQ
 . conv => lhs; whnf
 . assumption
|refine zj ?_
|refine za ?_
|refine zAb ?_
|refine zB ?_
|refine zM ?_
|refine zk ?_
|refine zV ?_
|refine zd ?_
|apply aw_1
 conv => whnf
 refine ⟨?_,trivial⟩
|apply s_1
 conv => whnf; arg 1; arg 4; arg 3; whnf
 refine ⟨?_,?_⟩
|apply z7 rfl
 . conv => lhs; whnf
 . conv => lhs; whnf; arg 2; whnf
|apply zl rfl
 . conv => lhs; whnf
 . conv => lhs; whnf
 . first | exact h2
|apply zAV rfl rfl rfl rfl
 . conv => lhs; whnf; arg 1; whnf
 . rfl
|apply zr rfl rfl rfl rfl
 . conv => lhs; whnf; arg 1; whnf
 . rfl
|apply zq rfl rfl rfl
 . conv => lhs; whnf
 . conv => lhs; whnf; arg 1; whnf
 . conv => lhs; whnf; arg 1; whnf
 . exact ⟨by kernel_rfl,by kernel_rfl⟩
 . rfl
|apply zAU rfl rfl
 . conv => lhs; whnf
 . first | exact zAW | exact zAx | exact zU | exact zA4 | exact zAm | (conv => lhs; whnf; arg 1; whnf)
|apply zAT rfl rfl
 . conv => lhs; whnf
 . first | exact zAW | exact zAx | exact zU | exact zA4 | exact zAm | (conv => lhs; whnf; arg 1; whnf)
 . conv => lhs; whnf; arg 1; whnf
 . rfl
 . rfl
|apply zN
 . conv => lhs; whnf; arg 1; arg 1; whnf
|apply zO
 . conv => lhs; whnf; arg 1; arg 1; whnf
|refine zW (by conv => lhs; whnf) ?_ ?_ <;> intro hb
|refine zn ?_
|refine zb ?_
|refine zH ?_
|refine zL ?_
|refine zG ?_
|refine zD rfl ?_
|refine zF rfl ?_
|refine zE ?_
|refine zJ ?_
|refine zC ?_
|refine zK ?_
|refine z8 ?_
|refine zI ?_
|refine ⟨_,by conv => lhs; whnf; arg 2; whnf,?_⟩; conv => rhs; whnf
|exact trivial
|intro hg)
   all_goals first
    | rfl
    | exact ⟨by decide,by simp⟩
theorem bff31 {b : Bool} (h : b = false) : (b == false) = true:=by rw [h]; rfl
theorem pos31 (l : List D) : decide (((l.length : Nat) : Int) > 0) = decide (0 < l.length):=by rw [decide_eq_decide]; omega
noncomputable def HLg (l : List D) (k i : Nat) : Vst 36:=stS 36 [(0,.sl 82 l),(1,.c (.int .i64 (k : Int))),(5,.c (.int .i64 (i : Int)))] []
theorem zEq (E0 : Ge) : ∀ (k : Nat) (l : List D),k <= 100 -> AC E0 Tryz.prog 30 [.sl 82 l,.c (.int .i64 (k : Int))] (.c (.bool (largeB k l)))
 | 0,l,_ => by
   refine zh 36 Tryz.func30 rfl rfl rfl rfl ?_
   intro s w he
   repeat' (first
|apply s_wanted_pick_t rfl rfl rfl
 . conv => lhs; whnf
 . first | rfl | assumption | decide +kernel
 . conv => lhs; whnf
 . first | decide +kernel | rfl
|apply zAL rfl rfl rfl
 . conv => lhs; whnf
 . first | rfl | assumption | decide +kernel
 . conv => lhs; whnf
 . first | decide +kernel | rfl
|apply s_wanted_pick_f rfl rfl rfl
 . conv => lhs; whnf
 . first | rfl | assumption | decide +kernel
 . conv => lhs; whnf
 . first | decide +kernel | rfl
|apply zAM rfl rfl rfl
 . conv => lhs; whnf
 . first | rfl | assumption | decide +kernel
 . conv => lhs; whnf
 . first | decide +kernel | rfl
|apply zCN 7
|refine k_rnd ?_
|refine zBt ?_
|refine zCG ?_
|apply zT
 . conv => lhs; whnf
 . decide +kernel
|apply zQ
 . conv => lhs; whnf
 . decide +kernel
|refine zB ?_
|refine zM ?_
|refine zk ?_
|refine zV ?_
|refine zd ?_
|apply aw_1
 conv => whnf
 refine ⟨?_,trivial⟩
|apply zp rfl rfl
 . conv => lhs; whnf
 . conv => lhs; whnf
 . first | decide +kernel
|apply zo rfl rfl
 . conv => lhs; whnf
 . conv => lhs; whnf
 . first | decide +kernel
|apply s_1
 conv => whnf; arg 1; arg 4; arg 3; whnf
 refine ⟨?_,?_⟩
|apply z7 rfl
 . conv => lhs; whnf
 . conv => lhs; whnf; arg 2; whnf
|apply zl rfl
 . conv => lhs; whnf
 . conv => lhs; whnf
 . first | fail
|apply zS rfl
 . conv => lhs; whnf
 . conv => lhs; whnf
 . first | rfl | assumption | decide +kernel
 . conv => lhs; whnf; arg 2; whnf
|apply zR rfl
 . conv => lhs; whnf
 . conv => lhs; whnf
 . first | rfl | assumption | decide +kernel
 . conv => lhs; whnf
 . first | fail
|apply zAI rfl
 . conv => lhs; whnf
 . conv => lhs; whnf
 . first | rfl | assumption | decide +kernel
|apply zAy rfl
 . conv => lhs; whnf
 . rfl
 . rfl
|apply zf rfl
 . conv => lhs; whnf
 . conv => lhs; whnf
 . conv => lhs; whnf; arg 2; whnf
|apply zu rfl
 . conv => lhs; whnf
 . conv => lhs; whnf
 . conv => lhs; whnf
 . first | fail
|apply zm rfl
 . conv => lhs; whnf
 . conv => lhs; whnf
 . conv => lhs; whnf; arg 2; whnf
|apply zi rfl
 . conv => lhs; whnf
 . conv => lhs; whnf
 . conv => lhs; whnf
 . first | fail
|apply zN
 . conv => lhs; whnf; arg 1; arg 1; whnf
|apply zO
 . conv => lhs; whnf; arg 1; arg 1; whnf
|refine zW (by conv => lhs; whnf) ?_ ?_ <;> intro hb
|refine zn ?_
|refine zb ?_
|refine zH ?_
|refine zL ?_
|refine zG ?_
|refine zD rfl ?_
|refine zF rfl ?_
|refine zE ?_
|refine zJ ?_
|refine zC ?_
|refine zK ?_
|refine z8 ?_
|refine zI ?_
|refine ⟨_,by conv => lhs; whnf; arg 2; whnf,?_⟩; conv => rhs; whnf
|exact trivial
|intro hg)
   all_goals rfl
 | k + 1,l,hk => by
   have f0 : decide (((k + 1 : Nat) : Int) <= 0) = false:=decide_eq_false (by omega)
   have f1:=bff31 f0
   have ih:=fun (l : List D) => zEq E0 k l (by omega)
   have e1 : (((k + 1 : Nat) : Int) - 1) = (k : Int):=by omega
   rw [<- e1] at ih
   by_cases hl : 60 < l.length
   . have f2 : decide ((l.length : Int) > 60) = true:=decide_eq_true (by omega)
     have e : largeB (k + 1) l = true:=by unfold largeB; rw [decide_eq_true hl]; rfl
     rw [e]
     refine zh 36 Tryz.func30 rfl rfl rfl rfl ?_
     intro s w he
     repeat' (first
|apply s_wanted_pick_t rfl rfl rfl
 . conv => lhs; whnf
 . first | rfl | assumption
 . conv => lhs; whnf
 . first | exact bT1 ‹_› | exact bT2 ‹_› | rfl
|apply zAL rfl rfl rfl
 . conv => lhs; whnf
 . first | rfl | assumption
 . conv => lhs; whnf
 . first | exact bT1 ‹_› | exact bT2 ‹_› | rfl
|apply s_wanted_pick_f rfl rfl rfl
 . conv => lhs; whnf
 . first | rfl | assumption
 . conv => lhs; whnf
 . first | exact bF1 ‹_› | exact bF2 ‹_› | rfl
|apply zAM rfl rfl rfl
 . conv => lhs; whnf
 . first | rfl | assumption
 . conv => lhs; whnf
 . first | exact bF1 ‹_› | exact bF2 ‹_› | rfl
|apply zT
 . conv => lhs; whnf
 . assumption
|apply zQ
 . conv => lhs; whnf
 . assumption
|refine zj ?_
|refine za ?_
|refine zAb ?_
|refine zB ?_
|refine zM ?_
|refine zk ?_
|refine zV ?_
|refine zd ?_
|apply aw_1
 conv => whnf
 refine ⟨?_,trivial⟩
|apply zp rfl rfl
 . conv => lhs; whnf
 . conv => lhs; whnf
 . first | exact bT1 ‹_› | exact bT2 ‹_›
|apply zo rfl rfl
 . conv => lhs; whnf
 . conv => lhs; whnf
 . first | exact bF1 ‹_› | exact bF2 ‹_›
|apply s_1
 conv => whnf; arg 1; arg 4; arg 3; whnf
 refine ⟨?_,?_⟩
|apply z7 rfl
 . conv => lhs; whnf
 . conv => lhs; whnf; arg 2; whnf
|apply zl rfl
 . conv => lhs; whnf
 . conv => lhs; whnf
 . first | fail
|apply zS rfl
 . conv => lhs; whnf
 . conv => lhs; whnf
 . first | rfl | assumption
 . conv => lhs; whnf; arg 2; whnf
|apply zR rfl
 . conv => lhs; whnf
 . conv => lhs; whnf
 . first | rfl | assumption
 . conv => lhs; whnf
 . first | fail
|apply zAI rfl
 . conv => lhs; whnf
 . conv => lhs; whnf
 . first | rfl | assumption
|apply zAy rfl
 . conv => lhs; whnf
 . rfl
 . rfl
|apply zf rfl
 . conv => lhs; whnf
 . conv => lhs; whnf
 . conv => lhs; whnf; arg 2; whnf
|apply zu rfl
 . conv => lhs; whnf
 . conv => lhs; whnf
 . conv => lhs; whnf
 . first | fail
|apply zm rfl
 . conv => lhs; whnf
 . conv => lhs; whnf
 . conv => lhs; whnf; arg 2; whnf
|apply zi rfl
 . conv => lhs; whnf
 . conv => lhs; whnf
 . conv => lhs; whnf
 . first | fail
|apply zN
 . conv => lhs; whnf; arg 1; arg 1; whnf
|apply zO
 . conv => lhs; whnf; arg 1; arg 1; whnf
|refine zW (by conv => lhs; whnf) ?_ ?_ <;> intro hb
|refine zn ?_
|refine zb ?_
|refine zH ?_
|refine zL ?_
|refine zG ?_
|refine zD rfl ?_
|refine zF rfl ?_
|refine zE ?_
|refine zJ ?_
|refine zC ?_
|refine zK ?_
|refine z8 ?_
|refine zI ?_
|refine ⟨_,by conv => lhs; whnf; arg 2; whnf,?_⟩; conv => rhs; whnf
|exact trivial
|intro hg)
     all_goals rfl
   . have f2 : decide ((l.length : Int) > 60) = false:=decide_eq_false (by omega)
     have e : largeB (k + 1) l = l.any fun p => decide (0 < (p.f 7).l.length) && largeB k (p.f 7).l:=by
      show (decide (60 < l.length) || _) = _
      rw [decide_eq_false hl,Bool.false_or]
     rw [e]
     refine zh 36 Tryz.func30 rfl rfl rfl rfl ?_
     intro s w he
     repeat' (first
|apply s_wanted_pick_t rfl rfl rfl
 . conv => lhs; whnf
 . first | rfl | assumption
 . conv => lhs; whnf
 . first | exact bT1 ‹_› | exact bT2 ‹_› | rfl
|apply zAL rfl rfl rfl
 . conv => lhs; whnf
 . first | rfl | assumption
 . conv => lhs; whnf
 . first | exact bT1 ‹_› | exact bT2 ‹_› | rfl
|apply s_wanted_pick_f rfl rfl rfl
 . conv => lhs; whnf
 . first | rfl | assumption
 . conv => lhs; whnf
 . first | exact bF1 ‹_› | exact bF2 ‹_› | rfl
|apply zAM rfl rfl rfl
 . conv => lhs; whnf
 . first | rfl | assumption
 . conv => lhs; whnf
 . first | exact bF1 ‹_› | exact bF2 ‹_› | rfl
|apply zT
 . conv => lhs; whnf
 . assumption
|apply zQ
 . conv => lhs; whnf
 . assumption
|refine zj ?_
|refine za ?_
|refine zAb ?_
|refine zB ?_
|refine zM ?_
|refine zk ?_
|refine zV ?_
|refine zd ?_
|apply aw_1
 conv => whnf
 refine ⟨?_,trivial⟩
|apply zp rfl rfl
 . conv => lhs; whnf
 . conv => lhs; whnf
 . first | exact bT1 ‹_› | exact bT2 ‹_›
|apply zo rfl rfl
 . conv => lhs; whnf
 . conv => lhs; whnf
 . first | exact bF1 ‹_› | exact bF2 ‹_›
|apply s_1
 conv => whnf; arg 1; arg 4; arg 3; whnf
 refine ⟨?_,?_⟩
|apply z7 rfl
 . conv => lhs; whnf
 . conv => lhs; whnf; arg 2; whnf
|apply zl rfl
 . conv => lhs; whnf
 . conv => lhs; whnf
 . first | fail
|apply zS rfl
 . conv => lhs; whnf
 . conv => lhs; whnf
 . first | rfl | assumption
 . conv => lhs; whnf; arg 2; whnf
|apply zR rfl
 . conv => lhs; whnf
 . conv => lhs; whnf
 . first | rfl | assumption
 . conv => lhs; whnf
 . first | fail
|apply zAI rfl
 . conv => lhs; whnf
 . conv => lhs; whnf
 . first | rfl | assumption
|apply zAy rfl
 . conv => lhs; whnf
 . rfl
 . rfl
|apply zf rfl
 . conv => lhs; whnf
 . conv => lhs; whnf
 . conv => lhs; whnf; arg 2; whnf
|apply zu rfl
 . conv => lhs; whnf
 . conv => lhs; whnf
 . conv => lhs; whnf
 . first | fail
|apply zm rfl
 . conv => lhs; whnf
 . conv => lhs; whnf
 . conv => lhs; whnf; arg 2; whnf
|apply zi rfl
 . conv => lhs; whnf
 . conv => lhs; whnf
 . conv => lhs; whnf
 . first | fail
|apply zN
 . conv => lhs; whnf; arg 1; arg 1; whnf
|apply zO
 . conv => lhs; whnf; arg 1; arg 1; whnf
|refine zW (by conv => lhs; whnf) ?_ ?_ <;> intro hb
|refine zn ?_
|refine zb ?_
|refine zH ?_
|refine zL ?_
|refine zG ?_
|refine zD rfl ?_
|refine zF rfl ?_
|refine zE ?_
|refine zJ ?_
|refine zC ?_
|refine zK ?_
|refine z8 ?_
|refine zI ?_
|refine ⟨_,by conv => lhs; whnf; arg 2; whnf,?_⟩; conv => rhs; whnf
|exact trivial
|intro hg)
     refine zAG (fun j st => ∃ i,i + j = l.length /\ (∀ m,m < i -> (decide (0 < ((gD l m).f 7).l.length) && largeB k ((gD l m).f 7).l) = false) /\ Sub (cx E0 Tryz.prog s w he) st (HLg l (k + 1) i)) l.length ⟨0,by omega,fun m hm => absurd hm (Nat.not_lt_zero m),Sub.live ⟨rfl,rfl,rfl,trivial⟩ trivial⟩ ?_
     rintro j st ⟨i,hij,hno,hs2⟩
     refine zAF hs2 ?_
     clear hs2
     by_cases hi : i < l.length
     . have g0 : decide ((i : Int) < (l.length : Nat)) = true:=decide_eq_true (by omega)
       have ih2:=ih ((gD l i).f 7).l
       have hp : decide ((((gD l i).f 7).l.length : Int) > 0) = decide (0 < ((gD l i).f 7).l.length):=pos31 _
       rcases h1 : decide (0 < ((gD l i).f 7).l.length) with _ | _
       . rw [h1] at hp
         have g1:=zDi hp
         repeat' (first
|apply s_wanted_pick_t rfl rfl rfl
 . conv => lhs; whnf
 . first | rfl | assumption
 . conv => lhs; whnf
 . first | exact bT1 ‹_› | exact bT2 ‹_› | rfl
|apply zAL rfl rfl rfl
 . conv => lhs; whnf
 . first | rfl | assumption
 . conv => lhs; whnf
 . first | exact bT1 ‹_› | exact bT2 ‹_› | rfl
|apply s_wanted_pick_f rfl rfl rfl
 . conv => lhs; whnf
 . first | rfl | assumption
 . conv => lhs; whnf
 . first | exact bF1 ‹_› | exact bF2 ‹_› | rfl
|apply zAM rfl rfl rfl
 . conv => lhs; whnf
 . first | rfl | assumption
 . conv => lhs; whnf
 . first | exact bF1 ‹_› | exact bF2 ‹_› | rfl
|apply zT
 . conv => lhs; whnf
 . assumption
|apply zQ
 . conv => lhs; whnf
 . assumption
|refine zj ?_
|refine za ?_
|refine zAb ?_
|refine zB ?_
|refine zM ?_
|refine zk ?_
|refine zV ?_
|refine zd ?_
|apply aw_1
 conv => whnf
 refine ⟨?_,trivial⟩
|apply zp rfl rfl
 . conv => lhs; whnf
 . conv => lhs; whnf
 . first | exact bT1 ‹_› | exact bT2 ‹_›
|apply zo rfl rfl
 . conv => lhs; whnf
 . conv => lhs; whnf
 . first | exact bF1 ‹_› | exact bF2 ‹_›
|apply s_1
 conv => whnf; arg 1; arg 4; arg 3; whnf
 refine ⟨?_,?_⟩
|apply z7 rfl
 . conv => lhs; whnf
 . conv => lhs; whnf; arg 2; whnf
|apply zl rfl
 . conv => lhs; whnf
 . conv => lhs; whnf
 . first | fail
|apply zS rfl
 . conv => lhs; whnf
 . conv => lhs; whnf
 . first | rfl | assumption
 . conv => lhs; whnf; arg 2; whnf
|apply zR rfl
 . conv => lhs; whnf
 . conv => lhs; whnf
 . first | rfl | assumption
 . conv => lhs; whnf
 . first | fail
|apply zAI rfl
 . conv => lhs; whnf
 . conv => lhs; whnf
 . first | rfl | assumption
|apply zAy rfl
 . conv => lhs; whnf
 . rfl
 . rfl
|apply zf rfl
 . conv => lhs; whnf
 . conv => lhs; whnf
 . conv => lhs; whnf; arg 2; whnf
|apply zu rfl
 . conv => lhs; whnf
 . conv => lhs; whnf
 . conv => lhs; whnf
 . first | fail
|apply zm rfl
 . conv => lhs; whnf
 . conv => lhs; whnf
 . conv => lhs; whnf; arg 2; whnf
|apply zi rfl
 . conv => lhs; whnf
 . conv => lhs; whnf
 . conv => lhs; whnf
 . first | fail
|apply zN
 . conv => lhs; whnf; arg 1; arg 1; whnf
|apply zO
 . conv => lhs; whnf; arg 1; arg 1; whnf
|refine zW (by conv => lhs; whnf) ?_ ?_ <;> intro hb
|refine zn ?_
|refine zb ?_
|refine zH ?_
|refine zL ?_
|refine zG ?_
|refine zD rfl ?_
|refine zF rfl ?_
|refine zE ?_
|refine zJ ?_
|refine zC ?_
|refine zK ?_
|refine z8 ?_
|refine zI ?_
|refine ⟨_,by conv => lhs; whnf; arg 2; whnf,?_⟩; conv => rhs; whnf
|exact trivial
|intro hg)
         all_goals first
          | exact zAN (by omega)
          | exact at31 hi
          | skip
         refine zY (j':=j - 1) (by omega) ⟨i + 1,by omega,fun m hm => ?_,Sub.live ⟨rfl,rfl,rfl,trivial⟩ trivial⟩
         by_cases em : m = i
         . subst em; rw [h1]; rfl
         . exact hno m (by omega)
       . rw [h1] at hp
         have g1:=zB7 hp
         rcases h2 : largeB k ((gD l i).f 7).l with _ | _
         . rw [h2] at ih2
           repeat' (first
|apply s_wanted_pick_t rfl rfl rfl
 . conv => lhs; whnf
 . first | rfl | assumption
 . conv => lhs; whnf
 . first | exact bT1 ‹_› | exact bT2 ‹_› | rfl
|apply zAL rfl rfl rfl
 . conv => lhs; whnf
 . first | rfl | assumption
 . conv => lhs; whnf
 . first | exact bT1 ‹_› | exact bT2 ‹_› | rfl
|apply s_wanted_pick_f rfl rfl rfl
 . conv => lhs; whnf
 . first | rfl | assumption
 . conv => lhs; whnf
 . first | exact bF1 ‹_› | exact bF2 ‹_› | rfl
|apply zAM rfl rfl rfl
 . conv => lhs; whnf
 . first | rfl | assumption
 . conv => lhs; whnf
 . first | exact bF1 ‹_› | exact bF2 ‹_› | rfl
|apply zT
 . conv => lhs; whnf
 . assumption
|apply zQ
 . conv => lhs; whnf
 . assumption
|refine zj ?_
|refine za ?_
|refine zAb ?_
|refine zB ?_
|refine zM ?_
|refine zk ?_
|refine zV ?_
|refine zd ?_
|apply aw_1
 conv => whnf
 refine ⟨?_,trivial⟩
|apply zp rfl rfl
 . conv => lhs; whnf
 . conv => lhs; whnf
 . first | exact bT1 ‹_› | exact bT2 ‹_›
|apply zo rfl rfl
 . conv => lhs; whnf
 . conv => lhs; whnf
 . first | exact bF1 ‹_› | exact bF2 ‹_›
|apply s_1
 conv => whnf; arg 1; arg 4; arg 3; whnf
 refine ⟨?_,?_⟩
|apply z7 rfl
 . conv => lhs; whnf
 . conv => lhs; whnf; arg 2; whnf
|apply zl rfl
 . conv => lhs; whnf
 . conv => lhs; whnf
 . first | exact ih2
|apply zS rfl
 . conv => lhs; whnf
 . conv => lhs; whnf
 . first | rfl | assumption
 . conv => lhs; whnf; arg 2; whnf
|apply zR rfl
 . conv => lhs; whnf
 . conv => lhs; whnf
 . first | rfl | assumption
 . conv => lhs; whnf
 . first | exact ih2
|apply zAI rfl
 . conv => lhs; whnf
 . conv => lhs; whnf
 . first | rfl | assumption
|apply zAy rfl
 . conv => lhs; whnf
 . rfl
 . rfl
|apply zf rfl
 . conv => lhs; whnf
 . conv => lhs; whnf
 . conv => lhs; whnf; arg 2; whnf
|apply zu rfl
 . conv => lhs; whnf
 . conv => lhs; whnf
 . conv => lhs; whnf
 . first | exact ih2
|apply zm rfl
 . conv => lhs; whnf
 . conv => lhs; whnf
 . conv => lhs; whnf; arg 2; whnf
|apply zi rfl
 . conv => lhs; whnf
 . conv => lhs; whnf
 . conv => lhs; whnf
 . first | exact ih2
|apply zN
 . conv => lhs; whnf; arg 1; arg 1; whnf
|apply zO
 . conv => lhs; whnf; arg 1; arg 1; whnf
|refine zW (by conv => lhs; whnf) ?_ ?_ <;> intro hb
|refine zn ?_
|refine zb ?_
|refine zH ?_
|refine zL ?_
|refine zG ?_
|refine zD rfl ?_
|refine zF rfl ?_
|refine zE ?_
|refine zJ ?_
|refine zC ?_
|refine zK ?_
|refine z8 ?_
|refine zI ?_
|refine ⟨_,by conv => lhs; whnf; arg 2; whnf,?_⟩; conv => rhs; whnf
|exact trivial
|intro hg)
           all_goals first
            | exact zAN (by omega)
            | exact at31 hi
            | skip
           refine zY (j':=j - 1) (by omega) ⟨i + 1,by omega,fun m hm => ?_,Sub.live ⟨rfl,rfl,rfl,trivial⟩ trivial⟩
           by_cases em : m = i
           . subst em; rw [h2,Bool.and_false]
           . exact hno m (by omega)
         . rw [h2] at ih2
           repeat' (first
|apply s_wanted_pick_t rfl rfl rfl
 . conv => lhs; whnf
 . first | rfl | assumption
 . conv => lhs; whnf
 . first | exact bT1 ‹_› | exact bT2 ‹_› | rfl
|apply zAL rfl rfl rfl
 . conv => lhs; whnf
 . first | rfl | assumption
 . conv => lhs; whnf
 . first | exact bT1 ‹_› | exact bT2 ‹_› | rfl
|apply s_wanted_pick_f rfl rfl rfl
 . conv => lhs; whnf
 . first | rfl | assumption
 . conv => lhs; whnf
 . first | exact bF1 ‹_› | exact bF2 ‹_› | rfl
|apply zAM rfl rfl rfl
 . conv => lhs; whnf
 . first | rfl | assumption
 . conv => lhs; whnf
 . first | exact bF1 ‹_› | exact bF2 ‹_› | rfl
|apply zT
 . conv => lhs; whnf
 . assumption
|apply zQ
 . conv => lhs; whnf
 . assumption
|refine zj ?_
|refine za ?_
|refine zAb ?_
|refine zB ?_
|refine zM ?_
|refine zk ?_
|refine zV ?_
|refine zd ?_
|apply aw_1
 conv => whnf
 refine ⟨?_,trivial⟩
|apply zp rfl rfl
 . conv => lhs; whnf
 . conv => lhs; whnf
 . first | exact bT1 ‹_› | exact bT2 ‹_›
|apply zo rfl rfl
 . conv => lhs; whnf
 . conv => lhs; whnf
 . first | exact bF1 ‹_› | exact bF2 ‹_›
|apply s_1
 conv => whnf; arg 1; arg 4; arg 3; whnf
 refine ⟨?_,?_⟩
|apply z7 rfl
 . conv => lhs; whnf
 . conv => lhs; whnf; arg 2; whnf
|apply zl rfl
 . conv => lhs; whnf
 . conv => lhs; whnf
 . first | exact ih2
|apply zS rfl
 . conv => lhs; whnf
 . conv => lhs; whnf
 . first | rfl | assumption
 . conv => lhs; whnf; arg 2; whnf
|apply zR rfl
 . conv => lhs; whnf
 . conv => lhs; whnf
 . first | rfl | assumption
 . conv => lhs; whnf
 . first | exact ih2
|apply zAI rfl
 . conv => lhs; whnf
 . conv => lhs; whnf
 . first | rfl | assumption
|apply zAy rfl
 . conv => lhs; whnf
 . rfl
 . rfl
|apply zf rfl
 . conv => lhs; whnf
 . conv => lhs; whnf
 . conv => lhs; whnf; arg 2; whnf
|apply zu rfl
 . conv => lhs; whnf
 . conv => lhs; whnf
 . conv => lhs; whnf
 . first | exact ih2
|apply zm rfl
 . conv => lhs; whnf
 . conv => lhs; whnf
 . conv => lhs; whnf; arg 2; whnf
|apply zi rfl
 . conv => lhs; whnf
 . conv => lhs; whnf
 . conv => lhs; whnf
 . first | exact ih2
|apply zN
 . conv => lhs; whnf; arg 1; arg 1; whnf
|apply zO
 . conv => lhs; whnf; arg 1; arg 1; whnf
|refine zW (by conv => lhs; whnf) ?_ ?_ <;> intro hb
|refine zn ?_
|refine zb ?_
|refine zH ?_
|refine zL ?_
|refine zG ?_
|refine zD rfl ?_
|refine zF rfl ?_
|refine zE ?_
|refine zJ ?_
|refine zC ?_
|refine zK ?_
|refine z8 ?_
|refine zI ?_
|refine ⟨_,by conv => lhs; whnf; arg 2; whnf,?_⟩; conv => rhs; whnf
|exact trivial
|intro hg)
           all_goals first
            | exact zAN (by omega)
            | exact at31 hi
            | skip
           refine congrArg (fun b => V.c (.bool b)) ?_
           refine (List.any_eq_true.2 ⟨gD l i,by rw [zBd hi]; exact List.getElem_mem hi,?_⟩)
           rw [h1,h2]; rfl
     . have g0 : decide ((i : Int) < (l.length : Nat)) = false:=decide_eq_false (by omega)
       repeat' (first
|apply zT
 . conv => lhs; whnf
 . assumption
|apply zQ
 . conv => lhs; whnf
 . assumption
|refine zj ?_
|refine za ?_
|refine zAb ?_
|refine zB ?_
|refine zM ?_
|refine zk ?_
|refine zV ?_
|refine zd ?_
|apply aw_1
 conv => whnf
 refine ⟨?_,trivial⟩
|apply zp rfl rfl
 . conv => lhs; whnf
 . conv => lhs; whnf
 . first | exact bT1 ‹_› | exact bT2 ‹_›
|apply zo rfl rfl
 . conv => lhs; whnf
 . conv => lhs; whnf
 . first | exact bF1 ‹_› | exact bF2 ‹_›
|apply s_1
 conv => whnf; arg 1; arg 4; arg 3; whnf
 refine ⟨?_,?_⟩
|apply z7 rfl
 . conv => lhs; whnf
 . conv => lhs; whnf; arg 2; whnf
|apply zl rfl
 . conv => lhs; whnf
 . conv => lhs; whnf
 . first | fail
|apply zS rfl
 . conv => lhs; whnf
 . conv => lhs; whnf
 . first | rfl | assumption
 . conv => lhs; whnf; arg 2; whnf
|apply zR rfl
 . conv => lhs; whnf
 . conv => lhs; whnf
 . first | rfl | assumption
 . conv => lhs; whnf
 . first | fail
|apply zA6 rfl
 . conv => lhs; whnf
 . conv => lhs; whnf
 . first | rfl | assumption
|apply zm rfl
 . conv => lhs; whnf
 . conv => lhs; whnf
 . conv => lhs; whnf; arg 2; whnf
|apply zi rfl
 . conv => lhs; whnf
 . conv => lhs; whnf
 . conv => lhs; whnf
 . first | fail
|apply zN
 . conv => lhs; whnf; arg 1; arg 1; whnf
|apply zO
 . conv => lhs; whnf; arg 1; arg 1; whnf
|refine zW (by conv => lhs; whnf) ?_ ?_ <;> intro hb
|refine zn ?_
|refine zb ?_
|refine zH ?_
|refine zL ?_
|refine zG ?_
|refine zD rfl ?_
|refine zF rfl ?_
|refine zE ?_
|refine zJ ?_
|refine zC ?_
|refine zK ?_
|refine z8 ?_
|refine zI ?_
|refine ⟨_,by conv => lhs; whnf; arg 2; whnf,?_⟩; conv => rhs; whnf
|exact trivial
|intro hg)
       refine congrArg (fun b => V.c (.bool b)) ?_
       rw [List.any_eq_false]
       intro x hx
       obtain ⟨m,hm,rfl⟩:=List.getElem_of_mem hx
       rw [<- zBd hm,hno m (by omega)]
       decide
def namS (d : D) : Bool:=nameB d.s
def namH (h : D) : Bool:=nameB (h.f 0).s && nameB (h.f 1).s
def zEo (gs : List D) (f : D) : Bool:=gs.all namS && (f.f 4).l.all namS && (f.f 2).l.all namH && nameB (f.f 3).s
theorem all_no {l : List D} {p : D -> Bool} {i : Nat} (hi : i < l.length) (h : p (gD l i) = false) : l.all p = false:=by
 rw [List.all_eq_false]
 exact ⟨gD l i,by rw [zBd hi]; exact List.getElem_mem hi,by rw [h]; decide⟩
theorem zHL {l : List D} {p : D -> Bool} (h : ∀ m,m < l.length -> p (gD l m) = true) : l.all p = true:=by
 rw [List.all_eq_true]
 intro x hx
 obtain ⟨m,hm,rfl⟩:=List.getElem_of_mem hx
 rw [<- zBd hm]
 exact h m hm
structure SzOk (gs : List D) (f : D) : Prop where
 lg : gs.length <= 1000000000
 lk : (f.f 4).l.length <= 1000000000
 lp : (f.f 2).l.length <= 1000000000
 sg : ∀ j,j < gs.length -> (gD gs j).s.size <= 1000000000
 sk : ∀ j,j < (f.f 4).l.length -> (gD (f.f 4).l j).s.size <= 1000000000
 sp : ∀ j,j < (f.f 2).l.length -> ((gD (f.f 2).l j).f 0).s.size <= 1000000000 /\ ((gD (f.f 2).l j).f 1).s.size <= 1000000000
 st : (f.f 3).s.size <= 1000000000
def smallB (gs : List D) (f : D) (kind : Int) : Bool:=decide (((gs.length : Nat) : Int) <= 12) && decide ((((f.f 2).l.length : Nat) : Int) <= 30) && decide ((((f.f 4).l.length : Nat) : Int) <= 12) && decide ((((f.f 7).l.length : Nat) : Int) <= 40) && decide (kind >= 1) && decide (kind <= 3)
theorem zDt (x : ByteArray) : AC EN Tryz.prog 29 [.c (.string x)] (.c (.bool (titleR x))):=by
 have hn:=zAl x
 have hT : (x.toList == ({ data:=#[111,110] } : ByteArray).toList) = (x.data.toList == [111,110]):=str_is _ _
 unfold titleR
 refine zh 9 Tryz.func29 rfl rfl rfl rfl ?_
 intro s w he
 repeat' (first
|refine zB ?_
|refine zM ?_
|refine zk ?_
|apply aw_1
 conv => whnf
 refine ⟨?_,trivial⟩
|apply zp rfl rfl
 . conv => lhs; whnf
 . conv => lhs; whnf
 . first | exact bT1 ‹_› | exact bT2 ‹_›
|apply zo rfl rfl
 . conv => lhs; whnf
 . conv => lhs; whnf
 . first | exact bF1 ‹_› | exact bF2 ‹_›
|apply s_1
 conv => whnf; arg 1; arg 4; arg 3; whnf
 refine ⟨?_,?_⟩
|apply zl rfl
 . conv => lhs; whnf
 . conv => lhs; whnf
 . first | exact hn
|apply zS rfl
 . conv => lhs; whnf
 . conv => lhs; whnf
 . first | rfl | assumption
 . conv => lhs; whnf; arg 2; whnf
|apply zAI rfl
 . conv => lhs; whnf
 . conv => lhs; whnf
 . first | rfl | assumption
|apply zf rfl
 . conv => lhs; whnf
 . conv => lhs; whnf
 . conv => lhs; whnf; arg 2; whnf
|refine zI ?_
|refine ⟨_,by conv => lhs; whnf; arg 2; whnf,?_⟩; conv => rhs; whnf
|exact trivial
|intro hg)
 all_goals
  clear hn he
  refine congrArg (fun b => V.c (.bool b)) ?_
  simp only [hT] at *
  simp_all
noncomputable def HqargsB8F (l : List D) (i : Nat) : Vst 29:=stS 29 [(0,.sl 68 l),(3,.c (.int .i64 (i : Int)))] []
theorem zE3 (l : List D) : AC EN Tryz.prog 95 [.sl 68 l] (.c (.bool (argsB8 l))):=by
 refine zEZ 1 fun hL => ?_
 have hl : l.length <= 9223372036854775807:=hL.1
 clear hL
 have hR : argsB8 l = (allIU zFo l l.length 0 && decide (l.length <= 16)):=by rw [zBg,Bool.and_comm]; rfl
 generalize argsB8 l = R at hR |-
 refine zh 29 Tryz.func95 rfl rfl rfl rfl ?_
 intro s w he
 repeat' (first
|refine zB ?_
|refine zM ?_
|refine zk ?_
|apply aw_1
 conv => whnf
 refine ⟨?_,trivial⟩
|apply s_1
 conv => whnf; arg 1; arg 4; arg 3; whnf
 refine ⟨?_,?_⟩
|exact trivial)
 refine zAG (fun j st => ∃ i,i + j = l.length /\ R = (allIU zFo l j i && decide (l.length <= 16)) /\ Sub (cx EN Tryz.prog s w he) st (HqargsB8F l i)) l.length ⟨0,by omega,hR,Sub.live ⟨rfl,rfl,trivial⟩ trivial⟩ ?_
 clear hR
 rintro j st ⟨i,hij,hR,hs2⟩
 refine zAF hs2 ?_
 clear hs2
 by_cases hi : i < l.length
 . obtain ⟨j,rfl⟩ : ∃ q,j = q + 1:=⟨j - 1,by omega⟩
   have f1 : decide ((i : Int) < (l.length : Nat)) = true:=decide_eq_true (by omega)
   have hR' : R = (zFo (gD l i) && allIU zFo l j (i + 1) && decide (l.length <= 16)):=hR
   clear hR
   have h1:=zAl ((gD l i).f 0).s
   have h2:=zHk ((gD l i).f 1)
   repeat' (first
|apply zT
 . conv => lhs; whnf
 . assumption
|refine zB ?_
|refine zM ?_
|refine zk ?_
|refine zV ?_
|apply aw_1
 conv => whnf
 refine ⟨?_,trivial⟩
|apply zp rfl rfl
 . conv => lhs; whnf
 . conv => lhs; whnf
 . first | exact bT1 ‹_› | exact bT2 ‹_›
|apply zo rfl rfl
 . conv => lhs; whnf
 . conv => lhs; whnf
 . first | exact bF1 ‹_› | exact bF2 ‹_›
|apply s_1
 conv => whnf; arg 1; arg 4; arg 3; whnf
 refine ⟨?_,?_⟩
|apply zl rfl
 . conv => lhs; whnf
 . conv => lhs; whnf
 . first | exact h1 | exact h2
|apply zS rfl
 . conv => lhs; whnf
 . conv => lhs; whnf
 . first | rfl | assumption
 . conv => lhs; whnf; arg 2; whnf
|apply zR rfl
 . conv => lhs; whnf
 . conv => lhs; whnf
 . first | rfl | assumption
 . conv => lhs; whnf
 . first | exact h1 | exact h2
|apply zAI rfl
 . conv => lhs; whnf
 . conv => lhs; whnf
 . first | rfl | assumption
|apply zf rfl
 . conv => lhs; whnf
 . conv => lhs; whnf
 . conv => lhs; whnf; arg 2; whnf
|refine zW (by conv => lhs; whnf) ?_ ?_ <;> intro hb
|refine zL ?_
|refine zG ?_
|refine zK ?_
|refine zI ?_
|refine ⟨_,by conv => lhs; whnf; arg 2; whnf,?_⟩; conv => rhs; whnf
|exact trivial
|intro hg)
   all_goals first
    | exact zAN (by omega)
    | exact zBQ hi
    | (have e : zFo (gD l i) = false:=by
        clear hR' he
        unfold zFo
        simp_all
       rw [hR',e]; rfl)
    | (have e : zFo (gD l i) = true:=by
        clear hR' he
        unfold zFo
        simp_all
       exact zY (j':=j) (by omega) ⟨i + 1,by omega,by rw [hR',e,Bool.true_and],Sub.live ⟨rfl,rfl,trivial⟩ trivial⟩)
    | skip
 . obtain rfl : j = 0:=by omega
   have f1 : decide ((i : Int) < (l.length : Nat)) = false:=decide_eq_false (by omega)
   repeat' (first
|apply zQ
 . conv => lhs; whnf
 . assumption
|refine zB ?_
|refine zM ?_
|refine zk ?_
|apply aw_1
 conv => whnf
 refine ⟨?_,trivial⟩
|apply s_1
 conv => whnf; arg 1; arg 4; arg 3; whnf
 refine ⟨?_,?_⟩
|refine zH ?_
|refine zD rfl ?_
|refine zC ?_
|refine zI ?_
|refine ⟨_,by conv => lhs; whnf; arg 2; whnf,?_⟩; conv => rhs; whnf
|exact trivial)
   rw [hR,allIU,Bool.true_and,le16B8]
noncomputable def HqdirsB8F (l : List D) (i : Nat) : Vst 29:=stS 29 [(0,.sl 129 l),(3,.c (.int .i64 (i : Int)))] []
theorem dirsB8F_ac (l : List D) : AC EN Tryz.prog 94 [.sl 129 l] (.c (.bool (dirsB8 l))):=by
 refine zEZ 1 fun hL => ?_
 have hl : l.length <= 9223372036854775807:=hL.1
 clear hL
 have hR : dirsB8 l = (allIU zFg l l.length 0 && decide (l.length <= 16)):=by rw [zBg,Bool.and_comm]; rfl
 generalize dirsB8 l = R at hR |-
 refine zh 29 Tryz.func94 rfl rfl rfl rfl ?_
 intro s w he
 repeat' (first
|refine zB ?_
|refine zM ?_
|refine zk ?_
|apply aw_1
 conv => whnf
 refine ⟨?_,trivial⟩
|apply s_1
 conv => whnf; arg 1; arg 4; arg 3; whnf
 refine ⟨?_,?_⟩
|exact trivial)
 refine zAG (fun j st => ∃ i,i + j = l.length /\ R = (allIU zFg l j i && decide (l.length <= 16)) /\ Sub (cx EN Tryz.prog s w he) st (HqdirsB8F l i)) l.length ⟨0,by omega,hR,Sub.live ⟨rfl,rfl,trivial⟩ trivial⟩ ?_
 clear hR
 rintro j st ⟨i,hij,hR,hs2⟩
 refine zAF hs2 ?_
 clear hs2
 by_cases hi : i < l.length
 . obtain ⟨j,rfl⟩ : ∃ q,j = q + 1:=⟨j - 1,by omega⟩
   have f1 : decide ((i : Int) < (l.length : Nat)) = true:=decide_eq_true (by omega)
   have hR' : R = (zFg (gD l i) && allIU zFg l j (i + 1) && decide (l.length <= 16)):=hR
   clear hR
   have h1:=zAl ((gD l i).f 0).s
   have h2:=zE3 ((gD l i).f 1).l
   repeat' (first
|apply zT
 . conv => lhs; whnf
 . assumption
|refine zB ?_
|refine zM ?_
|refine zk ?_
|refine zV ?_
|apply aw_1
 conv => whnf
 refine ⟨?_,trivial⟩
|apply zp rfl rfl
 . conv => lhs; whnf
 . conv => lhs; whnf
 . first | exact bT1 ‹_› | exact bT2 ‹_›
|apply zo rfl rfl
 . conv => lhs; whnf
 . conv => lhs; whnf
 . first | exact bF1 ‹_› | exact bF2 ‹_›
|apply s_1
 conv => whnf; arg 1; arg 4; arg 3; whnf
 refine ⟨?_,?_⟩
|apply zl rfl
 . conv => lhs; whnf
 . conv => lhs; whnf
 . first | exact h1 | exact h2
|apply zS rfl
 . conv => lhs; whnf
 . conv => lhs; whnf
 . first | rfl | assumption
 . conv => lhs; whnf; arg 2; whnf
|apply zR rfl
 . conv => lhs; whnf
 . conv => lhs; whnf
 . first | rfl | assumption
 . conv => lhs; whnf
 . first | exact h1 | exact h2
|apply zAI rfl
 . conv => lhs; whnf
 . conv => lhs; whnf
 . first | rfl | assumption
|apply zf rfl
 . conv => lhs; whnf
 . conv => lhs; whnf
 . conv => lhs; whnf; arg 2; whnf
|refine zW (by conv => lhs; whnf) ?_ ?_ <;> intro hb
|refine zL ?_
|refine zG ?_
|refine zK ?_
|refine zI ?_
|refine ⟨_,by conv => lhs; whnf; arg 2; whnf,?_⟩; conv => rhs; whnf
|exact trivial
|intro hg)
   all_goals first
    | exact zAN (by omega)
    | exact zBQ hi
    | (have e : zFg (gD l i) = false:=by
        clear hR' he
        unfold zFg
        simp_all
       rw [hR',e]; rfl)
    | (have e : zFg (gD l i) = true:=by
        clear hR' he
        unfold zFg
        simp_all
       exact zY (j':=j) (by omega) ⟨i + 1,by omega,by rw [hR',e,Bool.true_and],Sub.live ⟨rfl,rfl,trivial⟩ trivial⟩)
    | skip
 . obtain rfl : j = 0:=by omega
   have f1 : decide ((i : Int) < (l.length : Nat)) = false:=decide_eq_false (by omega)
   repeat' (first
|apply zQ
 . conv => lhs; whnf
 . assumption
|refine zB ?_
|refine zM ?_
|refine zk ?_
|apply aw_1
 conv => whnf
 refine ⟨?_,trivial⟩
|apply s_1
 conv => whnf; arg 1; arg 4; arg 3; whnf
 refine ⟨?_,?_⟩
|refine zH ?_
|refine zD rfl ?_
|refine zC ?_
|refine zI ?_
|refine ⟨_,by conv => lhs; whnf; arg 2; whnf,?_⟩; conv => rhs; whnf
|exact trivial)
   rw [hR,allIU,Bool.true_and,le16B8]
noncomputable def HCqF (d : D) (i : Nat) : Vst 21:=stS 21 [(1,.bx 1 0),(3,.c (.int .i64 (i : Int)))] [(1,.box 62 (cellsV Tryz.prog 12 62 d))]
theorem zEK : ∀ (k : Nat) (d : D),Dp k d -> AC EN Tryz.prog 57 [.agg (cellsV Tryz.prog 12 62 d)] (.c (.bool (bareR k d)))
 | 0,_,h => h.elim
 | k + 1,d,h => by
   refine zEP 2 (by kernel_rfl) fun hL => ?_
   have hl : (d.f 3).l.length <= 9223372036854775807:=(zDL hL).1
   clear hL
   have ih:=fun i (hi : i < (d.f 3).l.length) => zEK k (gD (d.f 3).l i) (h i hi)
   have hR : bareR (k + 1) d = (allIU (bareR k) (d.f 3).l (d.f 3).l.length 0 && !((d.f 0).n == 7)):=by rw [zBg,Bool.and_comm]; rfl
   generalize bareR (k + 1) d = R at hR |-
   refine zh 21 Tryz.func57 rfl rfl rfl rfl ?_
   intro s w he
   repeat' (first
|refine zB ?_
|refine zM ?_
|refine zk ?_
|apply aw_1
 conv => whnf
 refine ⟨?_,trivial⟩
|apply s_1
 conv => whnf; arg 1; arg 4; arg 3; whnf
 refine ⟨?_,?_⟩
|apply zAV rfl rfl rfl rfl
 . conv => lhs; whnf; arg 1; whnf
 . rfl
|exact trivial)
   refine zAG (fun j st => ∃ i,i + j = (d.f 3).l.length /\ R = (allIU (bareR k) (d.f 3).l j i && !((d.f 0).n == 7)) /\ Sub (cx EN Tryz.prog s w he) st (HCqF d i)) (d.f 3).l.length ⟨0,by omega,hR,Sub.live ⟨rfl,rfl,trivial⟩ ⟨rfl,trivial⟩⟩ ?_
   clear hR
   rintro j st ⟨i,hij,hR,hs2⟩
   refine zAF hs2 ?_
   clear hs2
   by_cases hi : i < (d.f 3).l.length
   . obtain ⟨j,rfl⟩ : ∃ q,j = q + 1:=⟨j - 1,by omega⟩
     have f1 : decide ((i : Int) < ((d.f 3).l.length : Nat)) = true:=decide_eq_true (by omega)
     have hR' : R = (bareR k (gD (d.f 3).l i) && allIU (bareR k) (d.f 3).l j (i + 1) && !((d.f 0).n == 7)):=hR
     have ih2:=ih i hi
     repeat' (first
|apply zT
 . conv => lhs; whnf
 . assumption
|refine zB ?_
|refine zM ?_
|refine zk ?_
|refine zV ?_
|apply aw_1
 conv => whnf
 refine ⟨?_,trivial⟩
|apply s_1
 conv => whnf; arg 1; arg 4; arg 3; whnf
 refine ⟨?_,?_⟩
|apply zl rfl
 . conv => lhs; whnf
 . conv => lhs; whnf
 . first | exact ih2
|refine zW (by conv => lhs; whnf) ?_ ?_ <;> intro hb
|refine zL ?_
|refine zG ?_
|refine zK ?_
|refine zI ?_
|refine ⟨_,by conv => lhs; whnf; arg 2; whnf,?_⟩; conv => rhs; whnf
|exact trivial)
     all_goals first
      | exact zAN (by omega)
      | exact zBQ hi
      | (have e : bareR k (gD (d.f 3).l i) = false:=by simpa using (by assumption : (!bareR k (gD (d.f 3).l i)) = true)
         rw [hR',e]; rfl)
      | (have e : bareR k (gD (d.f 3).l i) = true:=by simpa using (by assumption : (!bareR k (gD (d.f 3).l i)) = false)
         exact zY (j':=j) (by omega) ⟨i + 1,by omega,by rw [hR',e,Bool.true_and],Sub.live ⟨rfl,rfl,trivial⟩ ⟨rfl,trivial⟩⟩)
      | skip
   . obtain rfl : j = 0:=by omega
     have f1 : decide ((i : Int) < ((d.f 3).l.length : Nat)) = false:=decide_eq_false (by omega)
     repeat' (first
|apply zQ
 . conv => lhs; whnf
 . assumption
|refine zB ?_
|refine zM ?_
|refine zk ?_
|apply aw_1
 conv => whnf
 refine ⟨?_,trivial⟩
|apply s_1
 conv => whnf; arg 1; arg 4; arg 3; whnf
 refine ⟨?_,?_⟩
|refine zH ?_
|refine zD rfl ?_
|refine zC ?_
|refine zI ?_
|refine ⟨_,by conv => lhs; whnf; arg 2; whnf,?_⟩; conv => rhs; whnf
|exact trivial)
     rw [hR,allIU,Bool.true_and]; rfl
noncomputable def HSq (l : List D) (lv i : Nat) : Vst 31:=stS 31 [(0,.sl 57 l),(1,.c (.int .i64 (lv : Int))),(5,.c (.int .i64 (i : Int)))] []
theorem zEk (l : List D) (lv : Nat) (p : D -> Bool) (hc : lv <= 24 -> ∀ i,i < l.length -> AC EN Tryz.prog 58 [.agg (cellsV Tryz.prog 12 57 (gD l i)),.c (.int .i64 (lv : Int))] (.c (.bool (p (gD l i))))) :
 AC EN Tryz.prog 28 [.sl 57 l,.c (.int .i64 (lv : Int))] (.c (.bool (selsR p l 1 lv))):=by
 refine zEZ 1 fun hL => ?_
 have hl : l.length <= 9223372036854775807:=hL.1
 clear hL
 have e1 : ((l.length : Int) == 0) = decide (l.length = 0):=by rw [Bool.eq_iff_iff]; simp only [beq_iff_eq,decide_eq_true_eq]; omega
 have e2 : decide ((l.length : Int) > 64) = !decide (l.length <= 64):=by rw [Bool.eq_iff_iff]; simp; omega
 have e4 : decide ((lv : Int) > 24) = !decide (lv <= 24):=by rw [Bool.eq_iff_iff]; simp; omega
 have hR:=selsB8_one p l lv
 generalize selsR p l 1 lv = R at hR |-
 refine zh 31 Tryz.func28 rfl rfl rfl rfl ?_
 intro s w he
 by_cases hok : (!decide (l.length = 0) && decide (l.length <= 64) && decide (lv <= 24)) = true
 . have hR2 : R = allIU p l l.length 0:=by rw [hR,hok,Bool.true_and]
   simp only [Bool.and_eq_true,Bool.not_eq_true',decide_eq_false_iff_not,decide_eq_true_eq] at hok
   have hlv24 : lv <= 24:=hok.2
   have f1 : ((l.length : Int) == 0) = false:=by rw [e1]; exact decide_eq_false hok.1.1
   have f2 : decide ((l.length : Int) > 64) = false:=decide_eq_false (by omega)
   have f3 : decide ((lv : Int) > 24) = false:=decide_eq_false (by omega)
   have g1 : (((l.length : Int) == 0) == false) = true:=by rw [f1]; rfl
   have g2 : (decide ((l.length : Int) > 64) == false) = true:=by rw [f2]; rfl
   have k1 : (((l.length : Int) == 0) == false) = false -> False:=fun h => by rw [g1] at h; cases h
   have k2 : (decide ((l.length : Int) > 64) == false) = false -> False:=fun h => by rw [g2] at h; cases h
   clear hR e1 e2 e4
   repeat' (first
|apply zQ
 . conv => lhs; whnf
 . assumption
|refine zB ?_
|refine zM ?_
|refine zk ?_
|apply aw_1
 conv => whnf
 refine ⟨?_,trivial⟩
|apply zo rfl rfl
 . conv => lhs; whnf
 . conv => lhs; whnf
 . first | exact bF1 ‹_› | exact bF2 ‹_›
|apply s_1
 conv => whnf; arg 1; arg 4; arg 3; whnf
 refine ⟨?_,?_⟩
|apply zS rfl
 . conv => lhs; whnf
 . conv => lhs; whnf
 . first | rfl | assumption
 . conv => lhs; whnf; arg 2; whnf
|exact trivial)
   refine zAG (fun j st => ∃ i,i + j = l.length /\ R = allIU p l j i /\ Sub (cx EN Tryz.prog s w he) st (HSq l lv i)) l.length ⟨0,by omega,hR2,Sub.live ⟨rfl,rfl,rfl,trivial⟩ trivial⟩ ?_
   clear hR2 f1 f2 f3 g1 g2 k1 k2
   rintro j st ⟨i,hij,hR,hs2⟩
   refine zAF hs2 ?_
   clear hs2
   by_cases hi : i < l.length
   . obtain ⟨j,rfl⟩ : ∃ q,j = q + 1:=⟨j - 1,by omega⟩
     have f1 : decide ((i : Int) < (l.length : Nat)) = true:=decide_eq_true (by omega)
     have hR' : R = (p (gD l i) && allIU p l j (i + 1)):=hR
     have h1:=hc hlv24 i hi
     repeat' (first
|apply zT
 . conv => lhs; whnf
 . assumption
|refine zB ?_
|refine zM ?_
|refine zk ?_
|refine zV ?_
|apply aw_1
 conv => whnf
 refine ⟨?_,trivial⟩
|apply s_1
 conv => whnf; arg 1; arg 4; arg 3; whnf
 refine ⟨?_,?_⟩
|apply zl rfl
 . conv => lhs; whnf
 . conv => lhs; whnf
 . first | exact h1
|refine zW (by conv => lhs; whnf) ?_ ?_ <;> intro hb
|refine zL ?_
|refine zG ?_
|refine zK ?_
|refine zI ?_
|refine ⟨_,by conv => lhs; whnf; arg 2; whnf,?_⟩; conv => rhs; whnf
|exact trivial)
     all_goals first
      | exact zAN (by omega)
      | exact zBQ hi
      | (have e : p (gD l i) = false:=by simpa using (by assumption : (!p (gD l i)) = true)
         rw [hR',e]; rfl)
      | (have e : p (gD l i) = true:=by simpa using (by assumption : (!p (gD l i)) = false)
         exact zY (j':=j) (by omega) ⟨i + 1,by omega,by rw [hR',e,Bool.true_and],Sub.live ⟨rfl,rfl,rfl,trivial⟩ trivial⟩)
      | skip
   . obtain rfl : j = 0:=by omega
     have f1 : decide ((i : Int) < (l.length : Nat)) = false:=decide_eq_false (by omega)
     repeat' (first
|apply zQ
 . conv => lhs; whnf
 . assumption
|refine zB ?_
|refine zM ?_
|refine zk ?_
|apply aw_1
 conv => whnf
 refine ⟨?_,trivial⟩
|apply s_1
 conv => whnf; arg 1; arg 4; arg 3; whnf
 refine ⟨?_,?_⟩
|refine zH ?_
|refine zD rfl ?_
|refine zC ?_
|refine zI ?_
|refine ⟨_,by conv => lhs; whnf; arg 2; whnf,?_⟩; conv => rhs; whnf
|exact trivial)
     rw [hR]; rfl
 . have hok : (!decide (l.length = 0) && decide (l.length <= 64) && decide (lv <= 24)) = false:=by simpa using hok
   have hR2 : R = false:=by rw [hR,hok,Bool.false_and]
   subst hR2
   clear hR
   have K : ∀ {x y z : Bool},((l.length : Int) == 0) = x -> decide ((l.length : Int) > 64) = y -> decide ((lv : Int) > 24) = z -> x = false -> y = false -> z = false -> False:=fun h1 h2 h3 h4 h5 h6 => by
    rw [e1] at h1; rw [e2] at h2; rw [e4] at h3
    rw [h4] at h1; rw [h5] at h2; rw [h6] at h3
    simp only [h1,Bool.not_eq_false'] at h2 h3
    rw [h1,h2,h3] at hok
    cases hok
   by_cases f1 : ((l.length : Int) == 0) = true
   . have k1 : (((l.length : Int) == 0) == false) = true -> False:=fun h => by rw [f1] at h; cases h
     repeat' (first
|exact (k1 ‹_›).elim
|refine zB ?_
|refine zM ?_
|refine zk ?_
|apply aw_1
 conv => whnf
 refine ⟨?_,trivial⟩
|apply zp rfl rfl
 . conv => lhs; whnf
 . conv => lhs; whnf
 . first | exact bT1 ‹_› | exact bT2 ‹_›
|apply s_1
 conv => whnf; arg 1; arg 4; arg 3; whnf
 refine ⟨?_,?_⟩
|apply zAI rfl
 . conv => lhs; whnf
 . conv => lhs; whnf
 . first | rfl | assumption
|apply zf rfl
 . conv => lhs; whnf
 . conv => lhs; whnf
 . conv => lhs; whnf; arg 2; whnf
|refine zL ?_
|refine zI ?_
|refine ⟨_,by conv => lhs; whnf; arg 2; whnf,?_⟩; conv => rhs; whnf
|exact trivial
|intro hg)
   . have f1 : ((l.length : Int) == 0) = false:=by simpa using f1
     have g1 : (((l.length : Int) == 0) == false) = true:=by rw [f1]; rfl
     have k1 : (((l.length : Int) == 0) == false) = false -> False:=fun h => by rw [g1] at h; cases h
     by_cases f2 : decide ((l.length : Int) > 64) = true
     . have k2 : (decide ((l.length : Int) > 64) == false) = true -> False:=fun h => by rw [f2] at h; cases h
       repeat' (first
|exact (k2 ‹_›).elim
|refine zB ?_
|refine zM ?_
|refine zk ?_
|apply aw_1
 conv => whnf
 refine ⟨?_,trivial⟩
|apply zp rfl rfl
 . conv => lhs; whnf
 . conv => lhs; whnf
 . first | exact bT1 ‹_› | exact bT2 ‹_›
|apply zo rfl rfl
 . conv => lhs; whnf
 . conv => lhs; whnf
 . first | exact bF1 ‹_› | exact bF2 ‹_›
|apply s_1
 conv => whnf; arg 1; arg 4; arg 3; whnf
 refine ⟨?_,?_⟩
|apply zS rfl
 . conv => lhs; whnf
 . conv => lhs; whnf
 . first | rfl | assumption
 . conv => lhs; whnf; arg 2; whnf
|apply zAI rfl
 . conv => lhs; whnf
 . conv => lhs; whnf
 . first | rfl | assumption
|apply zf rfl
 . conv => lhs; whnf
 . conv => lhs; whnf
 . conv => lhs; whnf; arg 2; whnf
|refine zL ?_
|refine zI ?_
|refine ⟨_,by conv => lhs; whnf; arg 2; whnf,?_⟩; conv => rhs; whnf
|exact trivial
|intro hg)
     . have f2 : decide ((l.length : Int) > 64) = false:=by simpa using f2
       have g2 : (decide ((l.length : Int) > 64) == false) = true:=by rw [f2]; rfl
       have k2 : (decide ((l.length : Int) > 64) == false) = false -> False:=fun h => by rw [g2] at h; cases h
       have f3 : decide ((lv : Int) > 24) = true:=by
        cases f3 : decide ((lv : Int) > 24) with
        | true => rfl
        | false => exact (K f1 f2 f3 rfl rfl rfl).elim
       repeat' (first
|apply zT
 . conv => lhs; whnf
 . assumption
|refine zB ?_
|refine zM ?_
|refine zk ?_
|apply aw_1
 conv => whnf
 refine ⟨?_,trivial⟩
|apply zo rfl rfl
 . conv => lhs; whnf
 . conv => lhs; whnf
 . first | exact bF1 ‹_› | exact bF2 ‹_›
|apply s_1
 conv => whnf; arg 1; arg 4; arg 3; whnf
 refine ⟨?_,?_⟩
|apply zS rfl
 . conv => lhs; whnf
 . conv => lhs; whnf
 . first | rfl | assumption
 . conv => lhs; whnf; arg 2; whnf
|refine zL ?_
|refine zI ?_
|refine ⟨_,by conv => lhs; whnf; arg 2; whnf,?_⟩; conv => rhs; whnf
|exact trivial)
theorem zF1 : ∀ (k lv : Nat) (d : D),bulkD d <= k -> lv <= 24 -> AC EN Tryz.prog 58 [.agg (cellsV Tryz.prog 12 57 d),.c (.int .i64 (lv : Int))] (.c (.bool (selB8 k lv d)))
 | 0,_,d,h,_ => by have:=zBB d; omega
 | k + 1,lv,d,h,hlv => by
   have hB:=(sel_b (B:=bulkD d) (d:=d) (Nat.le_refl _)).l6
   have h1:=zAl (d.f 1).s
   have h2:=zAl (d.f 2).s
   have h3:=zAl (d.f 3).s
   have h4:=zE3 (d.f 4).l
   have h5:=dirsB8F_ac (d.f 5).l
   have h6:=zDt (d.f 2).s
   have hs1:=zEk (d.f 6).l (lv + 1) (selB8 k (lv + 1)) fun h24 i hi => zF1 k (lv + 1) _ (by have:=zAf hi; omega) h24
   have hs0:=zGh (selB8 k (lv + 1)) (d.f 6).l (lv + 1)
   have hz4 : (((d.f 4).l.length : Int) == 0) = decide ((d.f 4).l.length = 0):=by rw [Bool.eq_iff_iff]; simp
   have hz6 : (((d.f 6).l.length : Int) == 0) = decide ((d.f 6).l.length = 0):=by rw [Bool.eq_iff_iff]; simp
   have n1:=zDn (d.f 1).s
   have n2:=zDn (d.f 2).s
   have n3:=zDn (d.f 3).s
   have e : cellsV Tryz.prog 12 57 d = [.c (.int .i64 (d.f 0).n),.c (.string (d.f 1).s),.c (.string (d.f 2).s),.c (.string (d.f 3).s),.sl 68 (d.f 4).l,.sl 129 (d.f 5).l,.sl 57 (d.f 6).l]:=rfl
   unfold selB8
   rw [e,hs0]
   by_cases k1 : (d.f 0).n = 1
   . rw [if_pos k1,k1]
     refine zh 110 Tryz.func58 rfl rfl rfl rfl ?_
     intro s w he
     repeat' (first
|apply zAL rfl rfl rfl
 . conv => lhs; whnf
 . first | rfl | assumption
 . conv => lhs; whnf
 . first | exact bT1 ‹_› | exact bT2 ‹_› | rfl
|apply zAM rfl rfl rfl
 . conv => lhs; whnf
 . first | rfl | assumption
 . conv => lhs; whnf
 . first | exact bF1 ‹_› | exact bF2 ‹_› | rfl
|refine zB ?_
|refine zM ?_
|refine zk ?_
|apply aw_1
 conv => whnf
 refine ⟨?_,trivial⟩
|apply zp rfl rfl
 . conv => lhs; whnf
 . conv => lhs; whnf
 . first | exact bT1 ‹_› | exact bT2 ‹_›
|apply zo rfl rfl
 . conv => lhs; whnf
 . conv => lhs; whnf
 . first | exact bF1 ‹_› | exact bF2 ‹_›
|apply s_1
 conv => whnf; arg 1; arg 4; arg 3; whnf
 refine ⟨?_,?_⟩
|apply zl rfl
 . conv => lhs; whnf
 . conv => lhs; whnf
 . first | exact h1 | exact h2 | exact h4 | exact h5 | exact hs1
|apply zAV rfl rfl rfl rfl
 . conv => lhs; whnf; arg 1; whnf
 . rfl
|apply zS rfl
 . conv => lhs; whnf
 . conv => lhs; whnf
 . first | rfl | assumption
 . conv => lhs; whnf; arg 2; whnf
|apply zR rfl
 . conv => lhs; whnf
 . conv => lhs; whnf
 . first | rfl | assumption
 . conv => lhs; whnf
 . first | exact h1 | exact h2 | exact h4 | exact h5 | exact hs1
|apply zAI rfl
 . conv => lhs; whnf
 . conv => lhs; whnf
 . first | rfl | assumption
|apply zf rfl
 . conv => lhs; whnf
 . conv => lhs; whnf
 . conv => lhs; whnf; arg 2; whnf
|refine zW (by conv => lhs; whnf) ?_ ?_ <;> intro hb
|refine zL ?_
|refine zG ?_
|refine zI ?_
|refine ⟨_,by conv => lhs; whnf; arg 2; whnf,?_⟩; conv => rhs; whnf
|exact trivial
|intro hg)
     all_goals first
      | exact zAN (by omega)
      | (clear h1 h2 h3 h4 h5 h6 hs0 hs1 he e hB
         refine congrArg (fun b => V.c (.bool b)) ?_
         simp only [n1,n2,n3,hz4,hz6] at *
         clear n1 n2 n3 hz4 hz6
         generalize argsB8 (d.f 4).l = a1 at *
         generalize dirsB8 (d.f 5).l = a2 at *
         generalize noneS (d.f 1).s = a3 at *
         generalize noneS (d.f 3).s = a4 at *
         generalize nameB (d.f 1).s = a5 at *
         generalize nameB (d.f 2).s = a6 at *
         generalize selsR (selB8 k (lv + 1)) (d.f 6).l 1 (lv + 1) = a7 at *
         generalize decide ((d.f 6).l.length = 0) = a8 at *
         clear k1 h hlv
         simp_all)
   rw [if_neg k1]
   by_cases k2 : (d.f 0).n = 2
   . rw [if_pos k2,k2]
     refine zh 110 Tryz.func58 rfl rfl rfl rfl ?_
     intro s w he
     repeat' (first
|refine zB ?_
|refine zM ?_
|refine zk ?_
|apply aw_1
 conv => whnf
 refine ⟨?_,trivial⟩
|apply zp rfl rfl
 . conv => lhs; whnf
 . conv => lhs; whnf
 . first | exact bT1 ‹_› | exact bT2 ‹_›
|apply zo rfl rfl
 . conv => lhs; whnf
 . conv => lhs; whnf
 . first | exact bF1 ‹_› | exact bF2 ‹_›
|apply s_1
 conv => whnf; arg 1; arg 4; arg 3; whnf
 refine ⟨?_,?_⟩
|apply zl rfl
 . conv => lhs; whnf
 . conv => lhs; whnf
 . first | exact h4 | exact h5 | exact h6
|apply zAV rfl rfl rfl rfl
 . conv => lhs; whnf; arg 1; whnf
 . rfl
|apply zS rfl
 . conv => lhs; whnf
 . conv => lhs; whnf
 . first | rfl | assumption
 . conv => lhs; whnf; arg 2; whnf
|apply zR rfl
 . conv => lhs; whnf
 . conv => lhs; whnf
 . first | rfl | assumption
 . conv => lhs; whnf
 . first | exact h4 | exact h5 | exact h6
|apply zAI rfl
 . conv => lhs; whnf
 . conv => lhs; whnf
 . first | rfl | assumption
|apply zf rfl
 . conv => lhs; whnf
 . conv => lhs; whnf
 . conv => lhs; whnf; arg 2; whnf
|refine zW (by conv => lhs; whnf) ?_ ?_ <;> intro hb
|refine zL ?_
|refine zG ?_
|refine zI ?_
|refine ⟨_,by conv => lhs; whnf; arg 2; whnf,?_⟩; conv => rhs; whnf
|exact trivial
|intro hg)
     all_goals
      clear h1 h2 h3 h4 h5 h6 hs0 hs1 he e hB
      refine congrArg (fun b => V.c (.bool b)) ?_
      simp only [n1,n2,n3,hz4,hz6] at *
      clear n1 n2 n3 hz4 hz6
      generalize argsB8 (d.f 4).l = a1 at *
      generalize dirsB8 (d.f 5).l = a2 at *
      generalize noneS (d.f 1).s = a3 at *
      generalize noneS (d.f 3).s = a4 at *
      generalize decide ((d.f 4).l.length = 0) = a5 at *
      generalize decide ((d.f 6).l.length = 0) = a6 at *
      generalize titleR (d.f 2).s = a7 at *
      clear k1 k2 h hlv
      simp_all
   rw [if_neg k2]
   by_cases k3 : (d.f 0).n = 3
   . rw [if_pos k3,k3]
     refine zh 110 Tryz.func58 rfl rfl rfl rfl ?_
     intro s w he
     repeat' (first
|apply zAL rfl rfl rfl
 . conv => lhs; whnf
 . first | rfl | assumption
 . conv => lhs; whnf
 . first | exact bT1 ‹_› | exact bT2 ‹_› | rfl
|apply zAM rfl rfl rfl
 . conv => lhs; whnf
 . first | rfl | assumption
 . conv => lhs; whnf
 . first | exact bF1 ‹_› | exact bF2 ‹_› | rfl
|refine zB ?_
|refine zM ?_
|refine zk ?_
|apply aw_1
 conv => whnf
 refine ⟨?_,trivial⟩
|apply zp rfl rfl
 . conv => lhs; whnf
 . conv => lhs; whnf
 . first | exact bT1 ‹_› | exact bT2 ‹_›
|apply zo rfl rfl
 . conv => lhs; whnf
 . conv => lhs; whnf
 . first | exact bF1 ‹_› | exact bF2 ‹_›
|apply s_1
 conv => whnf; arg 1; arg 4; arg 3; whnf
 refine ⟨?_,?_⟩
|apply zl rfl
 . conv => lhs; whnf
 . conv => lhs; whnf
 . first | exact h3 | exact h4 | exact h5 | exact hs1
|apply zAV rfl rfl rfl rfl
 . conv => lhs; whnf; arg 1; whnf
 . rfl
|apply zS rfl
 . conv => lhs; whnf
 . conv => lhs; whnf
 . first | rfl | assumption
 . conv => lhs; whnf; arg 2; whnf
|apply zR rfl
 . conv => lhs; whnf
 . conv => lhs; whnf
 . first | rfl | assumption
 . conv => lhs; whnf
 . first | exact h3 | exact h4 | exact h5 | exact hs1
|apply zAI rfl
 . conv => lhs; whnf
 . conv => lhs; whnf
 . first | rfl | assumption
|apply zf rfl
 . conv => lhs; whnf
 . conv => lhs; whnf
 . conv => lhs; whnf; arg 2; whnf
|refine zW (by conv => lhs; whnf) ?_ ?_ <;> intro hb
|refine zL ?_
|refine zG ?_
|refine zI ?_
|refine ⟨_,by conv => lhs; whnf; arg 2; whnf,?_⟩; conv => rhs; whnf
|exact trivial
|intro hg)
     all_goals first
      | exact zAN (by omega)
      | (clear h1 h2 h3 h4 h5 h6 hs0 hs1 he e hB
         refine congrArg (fun b => V.c (.bool b)) ?_
         simp only [n1,n2,n3,hz4,hz6] at *
         clear n1 n2 n3 hz4 hz6
         generalize argsB8 (d.f 4).l = a1 at *
         generalize dirsB8 (d.f 5).l = a2 at *
         generalize noneS (d.f 1).s = a3 at *
         generalize noneS (d.f 2).s = a4 at *
         generalize noneS (d.f 3).s = a5 at *
         generalize nameB (d.f 3).s = a6 at *
         generalize decide ((d.f 4).l.length = 0) = a8 at *
         generalize selsR (selB8 k (lv + 1)) (d.f 6).l 1 (lv + 1) = a7 at *
         clear k1 k2 k3 h hlv
         simp_all)
   rw [if_neg k3]
   have f1 : ((d.f 0).n == 1) = false:=by simpa using k1
   have f2 : ((d.f 0).n == 2) = false:=by simpa using k2
   have f3 : ((d.f 0).n == 3) = false:=by simpa using k3
   refine zh 110 Tryz.func58 rfl rfl rfl rfl ?_
   intro s w he
   repeat' (first
|apply zQ
 . conv => lhs; whnf
 . assumption
|refine zB ?_
|refine zM ?_
|refine zk ?_
|refine zV ?_
|apply aw_1
 conv => whnf
 refine ⟨?_,trivial⟩
|apply zp rfl rfl
 . conv => lhs; whnf
 . conv => lhs; whnf
 . first | exact bT1 ‹_› | exact bT2 ‹_›
|apply zo rfl rfl
 . conv => lhs; whnf
 . conv => lhs; whnf
 . first | exact bF1 ‹_› | exact bF2 ‹_›
|apply s_1
 conv => whnf; arg 1; arg 4; arg 3; whnf
 refine ⟨?_,?_⟩
|apply zl rfl
 . conv => lhs; whnf
 . conv => lhs; whnf
 . first | exact h4 | exact h5
|apply zAV rfl rfl rfl rfl
 . conv => lhs; whnf; arg 1; whnf
 . rfl
|apply zS rfl
 . conv => lhs; whnf
 . conv => lhs; whnf
 . first | rfl | assumption
 . conv => lhs; whnf; arg 2; whnf
|apply zR rfl
 . conv => lhs; whnf
 . conv => lhs; whnf
 . first | rfl | assumption
 . conv => lhs; whnf
 . first | exact h4 | exact h5
|apply zAI rfl
 . conv => lhs; whnf
 . conv => lhs; whnf
 . first | rfl | assumption
|apply zf rfl
 . conv => lhs; whnf
 . conv => lhs; whnf
 . conv => lhs; whnf; arg 2; whnf
|refine zW (by conv => lhs; whnf) ?_ ?_ <;> intro hb
|refine zL ?_
|refine zI ?_
|refine ⟨_,by conv => lhs; whnf; arg 2; whnf,?_⟩; conv => rhs; whnf
|exact trivial
|intro hg)
   all_goals
    clear h1 h2 h3 h4 h5 h6 hs0 hs1 he e hB
    refine congrArg (fun b => V.c (.bool b)) ?_
    simp
theorem zFz (l : List D) : AC EN Tryz.prog 28 [.sl 57 l,.c (.int .i64 1)] (.c (.bool (setB8 l))):=
 zEk l 1 (selB8 (bulkL l) 1) fun h24 i hi => zF1 _ _ _ (zAf hi) h24
def varsB8 (l : List D) : Bool:=decide (l.length <= 16) && !(l.any fun x => !varB8 x)
noncomputable def HVq (l : List D) (i : Nat) : Vst 49:=stS 49 [(0,.sl 64 l),(3,.c (.int .i64 (i : Int)))] []
theorem varsB8F_ac (l : List D) : AC EN Tryz.prog 27 [.sl 64 l] (.c (.bool (varsB8 l))):=by
 refine zEZ 1 fun hL => ?_
 have hl : l.length <= 9223372036854775807:=hL.1
 clear hL
 have hR : varsB8 l = (allIU zB8 l l.length 0 && decide (l.length <= 16)):=by
  rw [zBg,Bool.and_comm]
  have : (fun x => !zB8 x) = fun x => !varB8 x:=funext fun x => by rw [varB8F_Q]
  rw [this]; rfl
 generalize varsB8 l = R at hR |-
 refine zh 49 Tryz.func27 rfl rfl rfl rfl ?_
 intro s w he
 repeat' (first
|refine zB ?_
|refine zM ?_
|refine zk ?_
|apply aw_1
 conv => whnf
 refine ⟨?_,trivial⟩
|apply s_1
 conv => whnf; arg 1; arg 4; arg 3; whnf
 refine ⟨?_,?_⟩
|exact trivial)
 refine zAG (fun j st => ∃ i,i + j = l.length /\ R = (allIU zB8 l j i && decide (l.length <= 16)) /\ Sub (cx EN Tryz.prog s w he) st (HVq l i)) l.length ⟨0,by omega,hR,Sub.live ⟨rfl,rfl,trivial⟩ trivial⟩ ?_
 clear hR
 rintro j st ⟨i,hij,hR,hs2⟩
 refine zAF hs2 ?_
 clear hs2
 by_cases hi : i < l.length
 . obtain ⟨j,rfl⟩ : ∃ q,j = q + 1:=⟨j - 1,by omega⟩
   have f1 : decide ((i : Int) < (l.length : Nat)) = true:=decide_eq_true (by omega)
   have hR' : R = (zB8 (gD l i) && allIU zB8 l j (i + 1) && decide (l.length <= 16)):=hR
   clear hR
   have h1:=zAl ((gD l i).f 0).s
   have h2:=refFU_ac ((gD l i).f 1)
   have h3:=zHk ((gD l i).f 3)
   have h4:=zEK _ ((gD l i).f 3) (zDP (bulkD ((gD l i).f 3)) ((gD l i).f 3) (Nat.le_refl _))
   repeat' (first
|apply zT
 . conv => lhs; whnf
 . assumption
|refine zB ?_
|refine zM ?_
|refine zk ?_
|refine zV ?_
|apply aw_1
 conv => whnf
 refine ⟨?_,trivial⟩
|apply zp rfl rfl
 . conv => lhs; whnf
 . conv => lhs; whnf
 . first | exact bT1 ‹_› | exact bT2 ‹_›
|apply zo rfl rfl
 . conv => lhs; whnf
 . conv => lhs; whnf
 . first | exact bF1 ‹_› | exact bF2 ‹_›
|apply s_1
 conv => whnf; arg 1; arg 4; arg 3; whnf
 refine ⟨?_,?_⟩
|apply zl rfl
 . conv => lhs; whnf
 . conv => lhs; whnf
 . first | exact h1 | exact h2 | exact h3 | exact h4
|apply zq rfl rfl rfl
 . conv => lhs; whnf
 . conv => lhs; whnf; arg 1; whnf
 . conv => lhs; whnf; arg 1; whnf
 . exact ⟨by kernel_rfl,by kernel_rfl⟩
 . rfl
|apply zS rfl
 . conv => lhs; whnf
 . conv => lhs; whnf
 . first | rfl | assumption
 . conv => lhs; whnf; arg 2; whnf
|apply zR rfl
 . conv => lhs; whnf
 . conv => lhs; whnf
 . first | rfl | assumption
 . conv => lhs; whnf
 . first | exact h1 | exact h2 | exact h3 | exact h4
|apply zAI rfl
 . conv => lhs; whnf
 . conv => lhs; whnf
 . first | rfl | assumption
|apply zf rfl
 . conv => lhs; whnf
 . conv => lhs; whnf
 . conv => lhs; whnf; arg 2; whnf
|refine zW (by conv => lhs; whnf) ?_ ?_ <;> intro hb
|refine zL ?_
|refine zG ?_
|refine zK ?_
|refine zI ?_
|refine ⟨_,by conv => lhs; whnf; arg 2; whnf,?_⟩; conv => rhs; whnf
|exact trivial
|intro hg)
   all_goals first
    | exact zAN (by omega)
    | exact zBQ hi
    | skip
   all_goals first
    | (have e : zB8 (gD l i) = false:=by
        clear hR' he h1 h2 h3 h4
        unfold zB8
        simp_all
       rw [hR',e]; rfl)
    | (have e : zB8 (gD l i) = true:=by
        clear hR' he h1 h2 h3 h4
        unfold zB8
        simp_all
       exact zY (j':=j) (by omega) ⟨i + 1,by omega,by rw [hR',e,Bool.true_and],Sub.live ⟨rfl,rfl,trivial⟩ trivial⟩)
    | skip
 . obtain rfl : j = 0:=by omega
   have f1 : decide ((i : Int) < (l.length : Nat)) = false:=decide_eq_false (by omega)
   repeat' (first
|apply zQ
 . conv => lhs; whnf
 . assumption
|refine zB ?_
|refine zM ?_
|refine zk ?_
|apply aw_1
 conv => whnf
 refine ⟨?_,trivial⟩
|apply s_1
 conv => whnf; arg 1; arg 4; arg 3; whnf
 refine ⟨?_,?_⟩
|refine zH ?_
|refine zD rfl ?_
|refine zC ?_
|refine zI ?_
|refine ⟨_,by conv => lhs; whnf; arg 2; whnf,?_⟩; conv => rhs; whnf
|exact trivial)
   rw [hR,allIU,Bool.true_and,le16B8]
noncomputable def HRoq (a b : List D) (i : Nat) : Vst 92:=stS 92 [(1,.bx 1 0),(4,.c (.int .i64 (i : Int)))] [(1,.box 25 [.sl 47 a,.sl 50 b])]
noncomputable def HRfq (a b : List D) (i : Nat) : Vst 92:=stS 92 [(1,.bx 1 0),(6,.c (.int .i64 (i : Int)))] [(1,.box 25 [.sl 47 a,.sl 50 b])]
theorem zGm (a b : List D) : AC EN Tryz.prog 8 [.agg [.sl 47 a,.sl 50 b]] (.c (.bool (queB8 a b))):=by
 refine ac_q2 fun hla hlb => ?_
 have hla : a.length <= 9223372036854775807:=hla
 have hlb : b.length <= 9223372036854775807:=hlb
 have hR : queB8 a b = ((decide (1 <= nW a b) && decide (nW a b <= 64)) && allIU opB8 a a.length 0 && allIU fragB8 b b.length 0):=by
  rw [zDE,zDE]; rfl
 generalize queB8 a b = R at hR |-
 have e1 : decide (IntKind.i64.wrap ((a.length : Int) + (b.length : Int)) < 1) = !decide (1 <= nW a b):=by
  unfold nW
  rw [Bool.eq_iff_iff]
  simp only [decide_eq_true_eq,Bool.not_eq_true',decide_eq_false_iff_not]
  omega
 have e2 : decide (IntKind.i64.wrap ((a.length : Int) + (b.length : Int)) > 64) = !decide (nW a b <= 64):=by
  unfold nW
  rw [Bool.eq_iff_iff]
  simp only [decide_eq_true_eq,Bool.not_eq_true',decide_eq_false_iff_not]
  omega
 refine zh 92 Tryz.func8 rfl rfl rfl rfl ?_
 intro s w he
 repeat' (first
|apply s_addW (y:=.tmp _) rfl rfl rfl
 . conv => lhs; whnf
 . conv => lhs; whnf
|refine zB ?_
|refine zM ?_
|refine zk ?_
|apply aw_1
 conv => whnf
 refine ⟨?_,trivial⟩
|apply zp rfl rfl
 . conv => lhs; whnf
 . conv => lhs; whnf
 . first | exact bT1 ‹_› | exact bT2 ‹_›
|apply zo rfl rfl
 . conv => lhs; whnf
 . conv => lhs; whnf
 . first | exact bF1 ‹_› | exact bF2 ‹_›
|apply s_1
 conv => whnf; arg 1; arg 4; arg 3; whnf
 refine ⟨?_,?_⟩
|apply zAV rfl rfl rfl rfl
 . conv => lhs; whnf; arg 1; whnf
 . rfl
|apply zS rfl
 . conv => lhs; whnf
 . conv => lhs; whnf
 . first | rfl | assumption
 . conv => lhs; whnf; arg 2; whnf
|apply zAI rfl
 . conv => lhs; whnf
 . conv => lhs; whnf
 . first | rfl | assumption
|apply zf rfl
 . conv => lhs; whnf
 . conv => lhs; whnf
 . conv => lhs; whnf; arg 2; whnf
|refine zW (by conv => lhs; whnf) ?_ ?_ <;> intro hb
|refine zL ?_
|refine zI ?_
|refine ⟨_,by conv => lhs; whnf; arg 2; whnf,?_⟩; conv => rhs; whnf
|exact trivial
|intro hg)
 . simp only [e1,e2] at *
   generalize decide (nW a b <= 64) = x at *
   simp_all
 . have hR2 : R = (allIU opB8 a a.length 0 && allIU fragB8 b b.length 0):=by
    simp only [e1,e2] at *
    simp_all
   clear hR hb hg e1 e2
   refine zAG (fun j st => ∃ i,i + j = a.length /\ R = (allIU opB8 a j i && allIU fragB8 b b.length 0) /\ Sub (cx EN Tryz.prog s w he) st (HRoq a b i)) a.length ⟨0,by omega,hR2,Sub.live ⟨rfl,rfl,trivial⟩ ⟨rfl,trivial⟩⟩ ?_
   clear hR2
   rintro j st ⟨i,hij,hR,hs2⟩
   refine zAF hs2 ?_
   clear hs2
   by_cases hi : i < a.length
   . obtain ⟨j,rfl⟩ : ∃ q,j = q + 1:=⟨j - 1,by omega⟩
     have f1 : decide ((i : Int) < (a.length : Nat)) = true:=decide_eq_true (by omega)
     have h1:=zAl ((gD a i).f 1).s
     have h2:=varsB8F_ac ((gD a i).f 2).l
     have h3:=zFz ((gD a i).f 3).l
     have g1 : decide (((gD a i).f 0).n < 1) = !decide (1 <= ((gD a i).f 0).n):=by
      rw [Bool.eq_iff_iff]
      simp only [decide_eq_true_eq,Bool.not_eq_true',decide_eq_false_iff_not]
      omega
     have g2 : decide (((gD a i).f 0).n > 3) = !decide (((gD a i).f 0).n <= 3):=by
      rw [Bool.eq_iff_iff]
      simp only [decide_eq_true_eq,Bool.not_eq_true',decide_eq_false_iff_not]
      omega
     have g4:=zDn ((gD a i).f 1).s
     have hR' : R = ((decide (1 <= ((gD a i).f 0).n) && decide (((gD a i).f 0).n <= 3)) && (noneS ((gD a i).f 1).s || nameB ((gD a i).f 1).s) && varsB8 ((gD a i).f 2).l && setB8 ((gD a i).f 3).l && allIU opB8 a j (i + 1) && allIU fragB8 b b.length 0):=by
      have hop : opB8 (gD a i) = ((decide (1 <= ((gD a i).f 0).n) && decide (((gD a i).f 0).n <= 3)) && (noneS ((gD a i).f 1).s || nameB ((gD a i).f 1).s) && varsB8 ((gD a i).f 2).l && setB8 ((gD a i).f 3).l):=by
       rw [<- Bool.decide_and]
       unfold opB8 varsB8
       simp only [Bool.and_assoc]
      rw [hR,<- hop]; rfl
     clear hR
     repeat' (first
|apply zAL rfl rfl rfl
 . conv => lhs; whnf
 . first | rfl | assumption
 . conv => lhs; whnf
 . first | exact bT1 ‹_› | exact bT2 ‹_› | rfl
|apply zAM rfl rfl rfl
 . conv => lhs; whnf
 . first | rfl | assumption
 . conv => lhs; whnf
 . first | exact bF1 ‹_› | exact bF2 ‹_› | rfl
|apply zT
 . conv => lhs; whnf
 . assumption
|refine zB ?_
|refine zM ?_
|refine zk ?_
|refine zV ?_
|apply aw_1
 conv => whnf
 refine ⟨?_,trivial⟩
|apply zp rfl rfl
 . conv => lhs; whnf
 . conv => lhs; whnf
 . first | exact bT1 ‹_› | exact bT2 ‹_›
|apply zo rfl rfl
 . conv => lhs; whnf
 . conv => lhs; whnf
 . first | exact bF1 ‹_› | exact bF2 ‹_›
|apply s_1
 conv => whnf; arg 1; arg 4; arg 3; whnf
 refine ⟨?_,?_⟩
|apply zq rfl rfl rfl
 . conv => lhs; whnf
 . conv => lhs; whnf; arg 1; whnf
 . conv => lhs; whnf; arg 1; whnf
 . exact ⟨by kernel_rfl,by kernel_rfl⟩
 . rfl
|apply zS rfl
 . conv => lhs; whnf
 . conv => lhs; whnf
 . first | rfl | assumption
 . conv => lhs; whnf; arg 2; whnf
|apply zR rfl
 . conv => lhs; whnf
 . conv => lhs; whnf
 . first | rfl | assumption
 . conv => lhs; whnf
 . first | exact h1 | exact h2 | exact h3
|apply zAI rfl
 . conv => lhs; whnf
 . conv => lhs; whnf
 . first | rfl | assumption
|apply zf rfl
 . conv => lhs; whnf
 . conv => lhs; whnf
 . conv => lhs; whnf; arg 2; whnf
|refine zW (by conv => lhs; whnf) ?_ ?_ <;> intro hb
|refine zL ?_
|refine zG ?_
|refine zK ?_
|refine zI ?_
|refine ⟨_,by conv => lhs; whnf; arg 2; whnf,?_⟩; conv => rhs; whnf
|exact trivial
|intro hg)
     all_goals first
      | exact zAN (by omega)
      | exact zBQ hi
      | refine congrArg (fun b => V.c (.bool b)) ?_
      | refine zY (j':=j) (by omega) ⟨i + 1,by omega,?_,Sub.live ⟨rfl,rfl,trivial⟩ ⟨rfl,trivial⟩⟩
     all_goals
      clear h1 h2 h3
      simp only [Int.toNat_natCast,Nat.reduceAdd,g1,g2,g4] at *
      clear g1 g2 g4
      generalize setB8 ((gD a i).f 3).l = a1 at *
      generalize varsB8 ((gD a i).f 2).l = a2 at *
      generalize noneS ((gD a i).f 1).s = a4 at *
      generalize nameB ((gD a i).f 1).s = a5 at *
      generalize decide (((gD a i).f 0).n <= 3) = a6 at *
      generalize decide (1 <= ((gD a i).f 0).n) = a7 at *
      generalize allIU fragB8 b b.length 0 = a8 at *
      generalize allIU opB8 a j (i + 1) = a9 at *
      clear f1 hi hij he
      simp_all
   . obtain rfl : j = 0:=by omega
     have f1 : decide ((i : Int) < (a.length : Nat)) = false:=decide_eq_false (by omega)
     have hR2 : R = allIU fragB8 b b.length 0:=by rw [hR,allIU,Bool.true_and]
     clear hR
     repeat' (first
|apply zQ
 . conv => lhs; whnf
 . assumption
|refine zB ?_
|refine zM ?_
|refine zk ?_
|apply aw_1
 conv => whnf
 refine ⟨?_,trivial⟩
|apply s_1
 conv => whnf; arg 1; arg 4; arg 3; whnf
 refine ⟨?_,?_⟩
|refine zH ?_
|refine zD rfl ?_
|refine zC ?_
|exact trivial)
     refine zAG (fun j st => ∃ i,i + j = b.length /\ R = allIU fragB8 b j i /\ Sub (cx EN Tryz.prog s w he) st (HRfq a b i)) b.length ⟨0,by omega,hR2,Sub.live ⟨rfl,rfl,trivial⟩ ⟨rfl,trivial⟩⟩ ?_
     clear hR2
     rintro j2 st2 ⟨i2,hij2,hR,hs2⟩
     refine zAF hs2 ?_
     clear hs2
     by_cases hi2 : i2 < b.length
     . obtain ⟨j2,rfl⟩ : ∃ q,j2 = q + 1:=⟨j2 - 1,by omega⟩
       have f2 : decide ((i2 : Int) < (b.length : Nat)) = true:=decide_eq_true (by omega)
       have h1:=zDt ((gD b i2).f 0).s
       have h2:=zAl ((gD b i2).f 1).s
       have h3:=zFz ((gD b i2).f 2).l
       have hR' : R = (titleR ((gD b i2).f 0).s && nameB ((gD b i2).f 1).s && setB8 ((gD b i2).f 2).l && allIU fragB8 b j2 (i2 + 1)):=hR
       clear hR
       repeat' (first
|apply zT
 . conv => lhs; whnf
 . assumption
|refine zB ?_
|refine zM ?_
|refine zk ?_
|refine zV ?_
|apply aw_1
 conv => whnf
 refine ⟨?_,trivial⟩
|apply zp rfl rfl
 . conv => lhs; whnf
 . conv => lhs; whnf
 . first | exact bT1 ‹_› | exact bT2 ‹_›
|apply zo rfl rfl
 . conv => lhs; whnf
 . conv => lhs; whnf
 . first | exact bF1 ‹_› | exact bF2 ‹_›
|apply s_1
 conv => whnf; arg 1; arg 4; arg 3; whnf
 refine ⟨?_,?_⟩
|apply zl rfl
 . conv => lhs; whnf
 . conv => lhs; whnf
 . first | exact h1 | exact h2 | exact h3
|apply zq rfl rfl rfl
 . conv => lhs; whnf
 . conv => lhs; whnf; arg 1; whnf
 . conv => lhs; whnf; arg 1; whnf
 . exact ⟨by kernel_rfl,by kernel_rfl⟩
 . rfl
|apply zS rfl
 . conv => lhs; whnf
 . conv => lhs; whnf
 . first | rfl | assumption
 . conv => lhs; whnf; arg 2; whnf
|apply zR rfl
 . conv => lhs; whnf
 . conv => lhs; whnf
 . first | rfl | assumption
 . conv => lhs; whnf
 . first | exact h1 | exact h2 | exact h3
|apply zAI rfl
 . conv => lhs; whnf
 . conv => lhs; whnf
 . first | rfl | assumption
|apply zf rfl
 . conv => lhs; whnf
 . conv => lhs; whnf
 . conv => lhs; whnf; arg 2; whnf
|refine zW (by conv => lhs; whnf) ?_ ?_ <;> intro hb
|refine zL ?_
|refine zG ?_
|refine zK ?_
|refine zI ?_
|refine ⟨_,by conv => lhs; whnf; arg 2; whnf,?_⟩; conv => rhs; whnf
|exact trivial
|intro hg)
       all_goals first
        | exact zAN (by omega)
        | exact zBQ hi2
        | refine congrArg (fun b => V.c (.bool b)) ?_
        | refine zY (j':=j2) (by omega) ⟨i2 + 1,by omega,?_,Sub.live ⟨rfl,rfl,trivial⟩ ⟨rfl,trivial⟩⟩
       all_goals
        clear h1 h2 h3
        try simp only [Int.toNat_natCast,Nat.reduceAdd] at *
        generalize titleR ((gD b i2).f 0).s = a1 at *
        generalize nameB ((gD b i2).f 1).s = a2 at *
        generalize setB8 ((gD b i2).f 2).l = a4 at *
        generalize allIU fragB8 b j2 (i2 + 1) = a8 at *
        clear f2 hi2 hij2 he hi hij f1
        simp_all
     . obtain rfl : j2 = 0:=by omega
       have f2 : decide ((i2 : Int) < (b.length : Nat)) = false:=decide_eq_false (by omega)
       repeat' (first
|apply zQ
 . conv => lhs; whnf
 . assumption
|refine zB ?_
|refine zM ?_
|refine zk ?_
|apply aw_1
 conv => whnf
 refine ⟨?_,trivial⟩
|apply s_1
 conv => whnf; arg 1; arg 4; arg 3; whnf
 refine ⟨?_,?_⟩
|refine zH ?_
|refine zD rfl ?_
|refine zC ?_
|refine zI ?_
|refine ⟨_,by conv => lhs; whnf; arg 2; whnf,?_⟩; conv => rhs; whnf
|exact trivial)
       rw [hR]; rfl
 . simp only [e1,e2] at *
   simp_all
   try (intros; omega)
end Go.Proofs.YtdlnnlglmifceaaGreatDoor
namespace Go.Proofs.YtdlnnlglmifceaaGreatDoor
open Go.RowKit
set_option linter.unusedSectionVars false
theorem ac_snd {e : Ge} {P : Program} {f : FuncId} {t : TypeId} {d : D} {x : V} {args : List V} {r : V} (n : Nat) (hb : layB P 12 t = true) (h : LenT P n t d -> AC e P f (x :: .agg (cellsV P 12 t d) :: args) r) : AC e P f (x :: .agg (cellsV P 12 t d) :: args) r:=
 zIK (fun s w us hr => by
  cases us with
  | nil => simp [relL] at hr
  | cons u us =>
    rw [relL] at hr
    cases us with
    | nil => simp [relL] at hr
    | cons v us =>
      have hr2:=hr.2
      rw [relL,rel] at hr2
      obtain ⟨⟨cs,-,h1⟩,-⟩:=hr2
      exact zEM 12 n t d cs.toList hb h1) h
theorem len_super {n : Nat} {d : D} (h : LenT Tryz.prog (n + 2) 35 d) : (d.f 0).l.length <= maxLen:=
 (LenT.lst (t:=28) (e:=9) (by kernel_rfl) (LenT.fld 0 (fs:=Tryz.prog.fieldsOf 35) (f:=(Tryz.prog.fieldsOf 35)[0]!) (by kernel_rfl) (by kernel_rfl) h)).1
theorem zGJ {n : Nat} {d : D} (h : LenT Tryz.prog (n + 2) 40 d) : (d.f 2).l.length <= maxLen /\ (d.f 4).l.length <= maxLen:=
 ⟨(LenT.lst (t:=36) (e:=80) (by kernel_rfl) (LenT.fld 2 (fs:=Tryz.prog.fieldsOf 40) (f:=(Tryz.prog.fieldsOf 40)[2]!) (by kernel_rfl) (by kernel_rfl) h)).1,
  (LenT.lst (t:=28) (e:=9) (by kernel_rfl) (LenT.fld 4 (fs:=Tryz.prog.fieldsOf 40) (f:=(Tryz.prog.fieldsOf 40)[4]!) (by kernel_rfl) (by kernel_rfl) h)).1⟩
attribute [local irreducible] wpList Calls Code.wp AW AWo OpOk seqK zAi zAp loopK endK AC zAC Yld Sub
attribute [local irreducible] ACB ACX absLexG YldG absLexH
noncomputable def HNm8 (s f : D) (c : Nat) (i : Nat) : Vst 64:=
 stS 64 [(2,.bx 2 0),(3,.bx 3 0),(c,.c (.int .i64 (i : Int)))] [(2,.box 35 (cellsV Tryz.prog 12 35 s)),(3,.box 40 (cellsV Tryz.prog 12 40 f))]
theorem named8_ac (s0 f : D) : AC EN Tryz.prog 31 [.agg (cellsV Tryz.prog 12 35 s0),.agg (cellsV Tryz.prog 12 40 f)] (.c (.bool (zEo (s0.f 0).l f))):=by
 refine zEP 2 (by kernel_rfl) fun hL1 => ?_
 refine ac_snd 2 (by kernel_rfl) fun hL2 => ?_
 have hlg : (s0.f 0).l.length <= 9223372036854775807:=len_super hL1
 have hlk : (f.f 4).l.length <= 9223372036854775807:=(zGJ hL2).2
 have hlp : (f.f 2).l.length <= 9223372036854775807:=(zGJ hL2).1
 clear hL1 hL2
 have hnt:=zAl (f.f 3).s
 refine zh 64 Tryz.func31 rfl rfl rfl rfl ?_
 intro s w he
 repeat' (first
|refine zB ?_
|refine zM ?_
|refine zk ?_
|apply aw_1
 conv => whnf
 refine ⟨?_,trivial⟩
|apply s_1
 conv => whnf; arg 1; arg 4; arg 3; whnf
 refine ⟨?_,?_⟩
|apply zAV rfl rfl rfl rfl
 . conv => lhs; whnf; arg 1; whnf
 . rfl
|exact trivial)
 refine zAG (fun j st => ∃ i,i + j = (s0.f 0).l.length /\ (∀ m,m < i -> namS (gD (s0.f 0).l m) = true) /\ Sub (cx EN Tryz.prog s w he) st (HNm8 s0 f 5 i)) (s0.f 0).l.length ⟨0,by omega,fun m hm => absurd hm (Nat.not_lt_zero m),Sub.live ⟨rfl,rfl,rfl,trivial⟩ ⟨rfl,rfl,trivial⟩⟩ ?_
 rintro j st ⟨i,hij,hno,hs2⟩
 refine zAF hs2 ?_
 clear hs2
 by_cases hi : i < (s0.f 0).l.length
 . have f0 : decide ((i : Int) < ((s0.f 0).l.length : Nat)) = true:=decide_eq_true (by omega)
   have hx:=zAl (gD (s0.f 0).l i).s
   rcases h1 : nameB (gD (s0.f 0).l i).s with _ | _
   . rw [h1] at hx
     repeat' (first
|apply zT
 . conv => lhs; whnf
 . assumption
|refine zB ?_
|refine zM ?_
|refine zk ?_
|apply aw_1
 conv => whnf
 refine ⟨?_,trivial⟩
|apply s_1
 conv => whnf; arg 1; arg 4; arg 3; whnf
 refine ⟨?_,?_⟩
|apply zl rfl
 . conv => lhs; whnf
 . conv => lhs; whnf
 . first | exact hx
|refine zL ?_
|refine zG ?_
|refine zK ?_
|refine zI ?_
|refine ⟨_,by conv => lhs; whnf; arg 2; whnf,?_⟩; conv => rhs; whnf
|exact trivial)
     all_goals first
      | exact at31 hi
      | (refine congrArg (fun b => V.c (.bool b)) ?_
         unfold zEo
         rw [all_no hi h1]; rfl)
   . rw [h1] at hx
     repeat' (first
|apply zT
 . conv => lhs; whnf
 . assumption
|refine zB ?_
|refine zM ?_
|refine zk ?_
|refine zV ?_
|apply aw_1
 conv => whnf
 refine ⟨?_,trivial⟩
|apply s_1
 conv => whnf; arg 1; arg 4; arg 3; whnf
 refine ⟨?_,?_⟩
|apply zl rfl
 . conv => lhs; whnf
 . conv => lhs; whnf
 . first | exact hx
|exact trivial)
     all_goals first
      | exact zAN (by omega)
      | exact at31 hi
      | skip
     refine zY (j':=j - 1) (by omega) ⟨i + 1,by omega,fun m hm => ?_,Sub.live ⟨rfl,rfl,rfl,trivial⟩ ⟨rfl,rfl,trivial⟩⟩
     by_cases em : m = i
     . subst em; exact h1
     . exact hno m (by omega)
 have f0 : decide ((i : Int) < ((s0.f 0).l.length : Nat)) = false:=decide_eq_false (by omega)
 have hA:=zHL (l:=(s0.f 0).l) (p:=namS) fun m hm => hno m (by omega)
 repeat' (first
|apply zQ
 . conv => lhs; whnf
 . assumption
|refine zB ?_
|refine zM ?_
|refine zk ?_
|apply aw_1
 conv => whnf
 refine ⟨?_,trivial⟩
|apply s_1
 conv => whnf; arg 1; arg 4; arg 3; whnf
 refine ⟨?_,?_⟩
|refine zH ?_
|refine zD rfl ?_
|refine zC ?_
|exact trivial)
 refine zAG (fun j st => ∃ i,i + j = (f.f 4).l.length /\ (∀ m,m < i -> namS (gD (f.f 4).l m) = true) /\ Sub (cx EN Tryz.prog s w he) st (HNm8 s0 f 6 i)) (f.f 4).l.length ⟨0,by omega,fun m hm => absurd hm (Nat.not_lt_zero m),Sub.live ⟨rfl,rfl,rfl,trivial⟩ ⟨rfl,rfl,trivial⟩⟩ ?_
 clear hno hi hij f0
 rintro j st ⟨i,hij,hno,hs2⟩
 refine zAF hs2 ?_
 clear hs2
 by_cases hi : i < (f.f 4).l.length
 . have f0 : decide ((i : Int) < ((f.f 4).l.length : Nat)) = true:=decide_eq_true (by omega)
   have hx:=zAl (gD (f.f 4).l i).s
   rcases h1 : nameB (gD (f.f 4).l i).s with _ | _
   . rw [h1] at hx
     repeat' (first
|apply zT
 . conv => lhs; whnf
 . assumption
|refine zB ?_
|refine zM ?_
|refine zk ?_
|apply aw_1
 conv => whnf
 refine ⟨?_,trivial⟩
|apply s_1
 conv => whnf; arg 1; arg 4; arg 3; whnf
 refine ⟨?_,?_⟩
|apply zl rfl
 . conv => lhs; whnf
 . conv => lhs; whnf
 . first | exact hx
|refine zL ?_
|refine zG ?_
|refine zK ?_
|refine zI ?_
|refine ⟨_,by conv => lhs; whnf; arg 2; whnf,?_⟩; conv => rhs; whnf
|exact trivial)
     all_goals first
      | exact at31 hi
      | (refine congrArg (fun b => V.c (.bool b)) ?_
         unfold zEo
         rw [all_no (l:=(f.f 4).l) hi h1,Bool.and_false]; rfl)
   . rw [h1] at hx
     repeat' (first
|apply zT
 . conv => lhs; whnf
 . assumption
|refine zB ?_
|refine zM ?_
|refine zk ?_
|refine zV ?_
|apply aw_1
 conv => whnf
 refine ⟨?_,trivial⟩
|apply s_1
 conv => whnf; arg 1; arg 4; arg 3; whnf
 refine ⟨?_,?_⟩
|apply zl rfl
 . conv => lhs; whnf
 . conv => lhs; whnf
 . first | exact hx
|exact trivial)
     all_goals first
      | exact zAN (by omega)
      | exact at31 hi
      | skip
     refine zY (j':=j - 1) (by omega) ⟨i + 1,by omega,fun m hm => ?_,Sub.live ⟨rfl,rfl,rfl,trivial⟩ ⟨rfl,rfl,trivial⟩⟩
     by_cases em : m = i
     . subst em; exact h1
     . exact hno m (by omega)
 have f0 : decide ((i : Int) < ((f.f 4).l.length : Nat)) = false:=decide_eq_false (by omega)
 have hB:=zHL (l:=(f.f 4).l) (p:=namS) fun m hm => hno m (by omega)
 repeat' (first
|apply zQ
 . conv => lhs; whnf
 . assumption
|refine zB ?_
|refine zM ?_
|refine zk ?_
|apply aw_1
 conv => whnf
 refine ⟨?_,trivial⟩
|apply s_1
 conv => whnf; arg 1; arg 4; arg 3; whnf
 refine ⟨?_,?_⟩
|refine zH ?_
|refine zD rfl ?_
|refine zC ?_
|exact trivial)
 refine zAG (fun j st => ∃ i,i + j = (f.f 2).l.length /\ (∀ m,m < i -> namH (gD (f.f 2).l m) = true) /\ Sub (cx EN Tryz.prog s w he) st (HNm8 s0 f 7 i)) (f.f 2).l.length ⟨0,by omega,fun m hm => absurd hm (Nat.not_lt_zero m),Sub.live ⟨rfl,rfl,rfl,trivial⟩ ⟨rfl,rfl,trivial⟩⟩ ?_
 clear hno hi hij f0
 rintro j st ⟨i,hij,hno,hs2⟩
 refine zAF hs2 ?_
 clear hs2
 by_cases hi : i < (f.f 2).l.length
 . have f0 : decide ((i : Int) < ((f.f 2).l.length : Nat)) = true:=decide_eq_true (by omega)
   have hx:=zAl ((gD (f.f 2).l i).f 0).s
   have hy:=zAl ((gD (f.f 2).l i).f 1).s
   rcases h1 : nameB ((gD (f.f 2).l i).f 0).s with _ | _ <;> rcases h2 : nameB ((gD (f.f 2).l i).f 1).s with _ | _
   all_goals
    have h3 : namH (gD (f.f 2).l i) = (nameB ((gD (f.f 2).l i).f 0).s && nameB ((gD (f.f 2).l i).f 1).s):=rfl
    rw [h1,h2] at h3
    rw [h1] at hx
    rw [h2] at hy
    repeat' (first
|apply zT
 . conv => lhs; whnf
 . assumption
|refine zB ?_
|refine zM ?_
|refine zk ?_
|refine zV ?_
|apply aw_1
 conv => whnf
 refine ⟨?_,trivial⟩
|apply s_1
 conv => whnf; arg 1; arg 4; arg 3; whnf
 refine ⟨?_,?_⟩
|apply zl rfl
 . conv => lhs; whnf
 . conv => lhs; whnf
 . first | exact hx | exact hy
|apply zR rfl
 . conv => lhs; whnf
 . conv => lhs; whnf
 . first | rfl | assumption
 . conv => lhs; whnf
 . first | exact hx | exact hy
|refine zL ?_
|refine zG ?_
|refine zK ?_
|refine zI ?_
|refine ⟨_,by conv => lhs; whnf; arg 2; whnf,?_⟩; conv => rhs; whnf
|exact trivial)
    all_goals first
     | exact zAN (by omega)
     | exact at31 hi
     | (refine congrArg (fun b => V.c (.bool b)) ?_
        unfold zEo
        rw [all_no (l:=(f.f 2).l) hi h3,Bool.and_false]; rfl)
     | skip
   refine zY (j':=j - 1) (by omega) ⟨i + 1,by omega,fun m hm => ?_,Sub.live ⟨rfl,rfl,rfl,trivial⟩ ⟨rfl,rfl,trivial⟩⟩
   by_cases em : m = i
   . subst em; exact h3
   . exact hno m (by omega)
 have f0 : decide ((i : Int) < ((f.f 2).l.length : Nat)) = false:=decide_eq_false (by omega)
 have hC:=zHL (l:=(f.f 2).l) (p:=namH) fun m hm => hno m (by omega)
 repeat' (first
|apply zQ
 . conv => lhs; whnf
 . assumption
|refine zB ?_
|refine zM ?_
|refine zk ?_
|apply aw_1
 conv => whnf
 refine ⟨?_,trivial⟩
|apply s_1
 conv => whnf; arg 1; arg 4; arg 3; whnf
 refine ⟨?_,?_⟩
|apply zl rfl
 . conv => lhs; whnf
 . conv => lhs; whnf
 . first | exact hnt
|refine zH ?_
|refine zD rfl ?_
|refine zC ?_
|refine zI ?_
|refine ⟨_,by conv => lhs; whnf; arg 2; whnf,?_⟩; conv => rhs; whnf
|exact trivial)
 refine congrArg (fun b => V.c (.bool b)) ?_
 unfold zEo
 rw [hA,hB,hC]; rfl
def zH0 (gs : List D) (f : D) (kind : Int) : Bool:=smallB gs f kind && !largeB 8 (f.f 6).l && zEo gs f && queB8 (fetchO 8 f kind) []
theorem fits8_ac (s0 f : D) (kind : Int) (hcp : largeB 8 (f.f 6).l = false -> CpP 8 (f.f 6).l) : AC EN Tryz.prog 9 [.agg (cellsV Tryz.prog 12 35 s0),.agg (cellsV Tryz.prog 12 40 f),.c (.int .i64 kind)] (.c (.bool (zH0 (s0.f 0).l f kind))):=by
 have h1 : AC EN Tryz.prog 30 [.sl 82 (f.f 6).l,.c (.int .i64 8)] (.c (.bool (largeB 8 (f.f 6).l))):=zEq EN 8 (f.f 6).l (by decide)
 have h2:=named8_ac s0 f
 unfold zH0 smallB
 cases hL : largeB 8 (f.f 6).l with
 | true =>
   rw [hL] at h1
   refine zh 55 Tryz.func9 rfl rfl rfl rfl ?_
   intro s w he
   repeat' (first
|refine zB ?_
|refine zM ?_
|refine zk ?_
|apply aw_1
 conv => whnf
 refine ⟨?_,trivial⟩
|apply zp rfl rfl
 . conv => lhs; whnf
 . conv => lhs; whnf
 . first | exact bT1 ‹_› | exact bT2 ‹_›
|apply zo rfl rfl
 . conv => lhs; whnf
 . conv => lhs; whnf
 . first | exact bF1 ‹_› | exact bF2 ‹_›
|apply s_1
 conv => whnf; arg 1; arg 4; arg 3; whnf
 refine ⟨?_,?_⟩
|apply zAV rfl rfl rfl rfl
 . conv => lhs; whnf; arg 1; whnf
 . rfl
|apply zS rfl
 . conv => lhs; whnf
 . conv => lhs; whnf
 . first | rfl | assumption
 . conv => lhs; whnf; arg 2; whnf
|apply zR rfl
 . conv => lhs; whnf
 . conv => lhs; whnf
 . first | rfl | assumption
 . conv => lhs; whnf
 . first | exact h1
|apply zAI rfl
 . conv => lhs; whnf
 . conv => lhs; whnf
 . first | rfl | assumption
|apply zf rfl
 . conv => lhs; whnf
 . conv => lhs; whnf
 . conv => lhs; whnf; arg 2; whnf
|refine zI ?_
|refine ⟨_,by conv => lhs; whnf; arg 2; whnf,?_⟩; conv => rhs; whnf
|exact trivial
|intro hg)
   all_goals (simp only [beq_true] at *; simp only [*,Bool.true_and,Bool.false_and,Bool.and_false,Bool.not_true])
 | false =>
   rw [hL] at h1
   have hc:=hcp hL
   have h3:=zGR EN 7 s0 f kind hc
   have h4 : AC EN Tryz.prog 8 [.agg [.sl 47 (fetchO (7 + 1) f kind),.sl 50 []]] (.c (.bool (queB8 (fetchO 8 f kind) []))):=zGm _ _
   refine zh 55 Tryz.func9 rfl rfl rfl rfl ?_
   intro s w he
   repeat' (first
|refine zB ?_
|refine zM ?_
|refine zk ?_
|apply aw_1
 conv => whnf
 refine ⟨?_,trivial⟩
|apply zp rfl rfl
 . conv => lhs; whnf
 . conv => lhs; whnf
 . first | exact bT1 ‹_› | exact bT2 ‹_›
|apply zo rfl rfl
 . conv => lhs; whnf
 . conv => lhs; whnf
 . first | exact bF1 ‹_› | exact bF2 ‹_›
|apply s_1
 conv => whnf; arg 1; arg 4; arg 3; whnf
 refine ⟨?_,?_⟩
|apply zAV rfl rfl rfl rfl
 . conv => lhs; whnf; arg 1; whnf
 . rfl
|apply zS rfl
 . conv => lhs; whnf
 . conv => lhs; whnf
 . first | rfl | assumption
 . conv => lhs; whnf; arg 2; whnf
|apply zR rfl
 . conv => lhs; whnf
 . conv => lhs; whnf
 . first | rfl | assumption
 . conv => lhs; whnf
 . first | exact h1 | exact h2 | exact h3 | exact h4
|apply zAI rfl
 . conv => lhs; whnf
 . conv => lhs; whnf
 . first | rfl | assumption
|apply zf rfl
 . conv => lhs; whnf
 . conv => lhs; whnf
 . conv => lhs; whnf; arg 2; whnf
|refine zI ?_
|refine ⟨_,by conv => lhs; whnf; arg 2; whnf,?_⟩; conv => rhs; whnf
|exact trivial
|intro hg)
   all_goals (simp only [beq_true,Bool.not_false,cond_true] at *; simp only [*,Bool.true_and,Bool.false_and,Bool.and_false,Bool.not_true,Bool.not_false])
end Go.Proofs.YtdlnnlglmifceaaGreatDoor
