import Derived.Test.YtdlnnlglmifceaaDoorQ30
set_option maxHeartbeats 8000000
set_option maxRecDepth 100000
set_option linter.unusedVariables false
set_option linter.unusedSimpArgs false
namespace Go.Proofs.YtdlnnlglmifceaaDoor
open Go.RowKit
set_option linter.unusedSectionVars false
attribute [local irreducible] wpList Calls Code.wp AW AWo OpOk seqK zAf zAj loopK endK AC zAH Yld Sub
attribute [local irreducible] ACB ACX YldG absLexH
theorem chain5 : ∀ a b c d e : Bool,a = false \/ (a = true /\ b = false) \/ (a = true /\ b = true /\ c = false) \/ (a = true /\ b = true /\ c = true /\ d = false) \/ (a = true /\ b = true /\ c = true /\ d = true /\ e = false) \/ (a = true /\ b = true /\ c = true /\ d = true /\ e = true):=by decide
theorem chain6 : ∀ a b c d e f : Bool,a = false \/ (a = true /\ b = false) \/ (a = true /\ b = true /\ c = false) \/ (a = true /\ b = true /\ c = true /\ d = false) \/ (a = true /\ b = true /\ c = true /\ d = true /\ e = false) \/ (a = true /\ b = true /\ c = true /\ d = true /\ e = true /\ f = false) \/ (a = true /\ b = true /\ c = true /\ d = true /\ e = true /\ f = true):=by
 intro a b c d e f
 cases a
 . exact .inl rfl
 cases b
 . exact .inr (.inl ⟨rfl,rfl⟩)
 cases c
 . exact .inr (.inr (.inl ⟨rfl,rfl,rfl⟩))
 cases d
 . exact .inr (.inr (.inr (.inl ⟨rfl,rfl,rfl,rfl⟩)))
 cases e
 . exact .inr (.inr (.inr (.inr (.inl ⟨rfl,rfl,rfl,rfl,rfl⟩))))
 cases f
 . exact .inr (.inr (.inr (.inr (.inr (.inl ⟨rfl,rfl,rfl,rfl,rfl,rfl⟩)))))
 . exact .inr (.inr (.inr (.inr (.inr (.inr ⟨rfl,rfl,rfl,rfl,rfl,rfl⟩)))))
theorem zHV (h : ((!false) == false) = true) : False:=by cases h
theorem lenI_t {n m : Nat} (h : ((n : Int) == (m : Int)) = true) : n = m:=by have:=eq_of_beq h; omega
theorem lenI_f {n m : Nat} (h : ((n : Int) == (m : Int)) = false) : ((n : Int) != (m : Int)) = true:=by simp at h; simpa using h
noncomputable def HzT7 (l m : List D) (i : Nat) : Vst 26:=stS 26 [(0,.sl 9 l),(1,.sl 9 m),(5,.c (.int .i64 (i : Int)))] []
theorem textsZ_ac (l m : List D) (hl : bulkL l <= 100000000) (hm : bulkL m <= 100000000) : AC EN Tryd.prog 36 [.sl 9 l,.sl 9 m] (.c (.bool (eqL sEq l m))):=by
 have hll:=zAY l
 by_cases hlen : l.length = m.length
 . have f0 : ((l.length : Int) != (m.length : Int)) = false:=by simp [hlen]
   refine zV 26 Tryd.func36 rfl rfl rfl rfl ?_
   intro s w he
   repeat' (first
|apply zG
 . conv => lhs; whnf
 . assumption
|apply zF
 . conv => lhs; whnf
 . assumption
|refine ze ?_
|refine zY ?_
|refine zAP ?_
|refine zA ?_
|refine zI ?_
|refine zZ ?_
|refine zW ?_
|refine zi ?_
|apply aw_1
 conv => whnf
 refine ⟨?_,trivial⟩
|apply s_1
 conv => whnf; arg 1; arg 4; arg 3; whnf
 refine ⟨?_,?_⟩
|apply zAF rfl
 . conv => lhs; whnf
 . conv => lhs; whnf; arg 2; whnf
|apply zq (by kernel_rfl) (by kernel_rfl)
|apply zAR
|apply zAQ rfl
 . conv => lhs; whnf
 . conv => lhs; whnf; arg 2; whnf
|exact zR
|exact zX
|exact all_nil
|show List.all _ _ = true; rfl
|show zAC _ _ = true; rfl
|exact ([] : List Nat)
|exact (1000000 : Nat)
|apply zS
 . conv => lhs; whnf; arg 1; arg 1; whnf
|apply zU
 . conv => lhs; whnf; arg 1; arg 1; whnf
|refine zd (by conv => lhs; whnf) ?_ ?_ <;> intro hb
|refine zv ?_
|refine zh ?_
|refine zJ ?_
|refine zK ?_
|refine zH ?_
|refine zE rfl ?_
|refine zM rfl ?_
|refine zL ?_
|refine zO ?_
|refine zC ?_
|refine zN ?_
|refine zAG ?_
|refine zB ?_
|refine ⟨_,by conv => lhs; whnf; arg 2; whnf,?_⟩; conv => rhs; whnf
|exact trivial
|intro hg)
   refine z7 (fun j st => ∃ i,i + j = l.length /\ (∀ q,q < i -> sEq (gD l q) (gD m q) = true) /\ Sub (cx EN Tryd.prog s w he) st (HzT7 l m i)) l.length ⟨0,by omega,fun q hq => by omega,Sub.live ⟨rfl,rfl,rfl,trivial⟩ trivial⟩ ?_
   rintro j st ⟨i,hij,hall,hs2⟩
   refine zAA hs2 ?_
   clear hs2
   by_cases hi : i < l.length
   . have f1 : decide ((i : Int) < (l.length : Nat)) = true:=decide_eq_true (by omega)
     have hi2 : i < m.length:=by omega
     have bx:=zAZ hi hl
     have by_:=zAZ hi2 hm
     cases e : sEq (gD l i) (gD m i) with
     | true =>
       have f3 : (!((gD l i).s.toList == (gD m i).s.toList)) = false:=by rw [show ((gD l i).s.toList == (gD m i).s.toList) = sEq (gD l i) (gD m i) from rfl,e]; rfl
       repeat' (first
|apply zG
 . conv => lhs; whnf
 . assumption
|apply zF
 . conv => lhs; whnf
 . assumption
|refine ze ?_
|refine zY ?_
|refine zAP ?_
|refine zA ?_
|refine zI ?_
|refine zZ ?_
|refine zW ?_
|refine zi ?_
|apply aw_1
 conv => whnf
 refine ⟨?_,trivial⟩
|apply s_1
 conv => whnf; arg 1; arg 4; arg 3; whnf
 refine ⟨?_,?_⟩
|apply zAF rfl
 . conv => lhs; whnf
 . conv => lhs; whnf; arg 2; whnf
|apply zq (by kernel_rfl) (by kernel_rfl)
|apply zAR
|apply zAQ rfl
 . conv => lhs; whnf
 . conv => lhs; whnf; arg 2; whnf
|exact zR
|exact zX
|exact all_nil
|show List.all _ _ = true; rfl
|show zAC _ _ = true; rfl
|exact ([] : List Nat)
|exact (1000000 : Nat)
|apply zS
 . conv => lhs; whnf; arg 1; arg 1; whnf
|apply zU
 . conv => lhs; whnf; arg 1; arg 1; whnf
|refine zd (by conv => lhs; whnf) ?_ ?_ <;> intro hb
|refine zv ?_
|refine zh ?_
|refine zJ ?_
|refine zK ?_
|refine zH ?_
|refine zE rfl ?_
|refine zM rfl ?_
|refine zL ?_
|refine zO ?_
|refine zC ?_
|refine zN ?_
|refine zAG ?_
|refine zB ?_
|refine ⟨_,by conv => lhs; whnf; arg 2; whnf,?_⟩; conv => rhs; whnf
|exact trivial
|intro hg)
       all_goals first
        | exact zu (by omega)
        | exact zx hi
        | exact zx hi2
        | exact za (j':=j - 1) (by omega) ⟨i + 1,by omega,zB0 hall e,Sub.live ⟨rfl,rfl,rfl,trivial⟩ trivial⟩
        | skip
     | false =>
       have f3 : (!((gD l i).s.toList == (gD m i).s.toList)) = true:=by rw [show ((gD l i).s.toList == (gD m i).s.toList) = sEq (gD l i) (gD m i) from rfl,e]; rfl
       rw [zAg hi e]
       repeat' (first
|apply zG
 . conv => lhs; whnf
 . assumption
|apply zF
 . conv => lhs; whnf
 . assumption
|refine ze ?_
|refine zY ?_
|refine zAP ?_
|refine zA ?_
|refine zI ?_
|refine zZ ?_
|refine zW ?_
|refine zi ?_
|apply aw_1
 conv => whnf
 refine ⟨?_,trivial⟩
|apply s_1
 conv => whnf; arg 1; arg 4; arg 3; whnf
 refine ⟨?_,?_⟩
|apply zAF rfl
 . conv => lhs; whnf
 . conv => lhs; whnf; arg 2; whnf
|apply zq (by kernel_rfl) (by kernel_rfl)
|apply zAR
|apply zAQ rfl
 . conv => lhs; whnf
 . conv => lhs; whnf; arg 2; whnf
|exact zR
|exact zX
|exact all_nil
|show List.all _ _ = true; rfl
|show zAC _ _ = true; rfl
|exact ([] : List Nat)
|exact (1000000 : Nat)
|apply zS
 . conv => lhs; whnf; arg 1; arg 1; whnf
|apply zU
 . conv => lhs; whnf; arg 1; arg 1; whnf
|refine zd (by conv => lhs; whnf) ?_ ?_ <;> intro hb
|refine zv ?_
|refine zh ?_
|refine zJ ?_
|refine zK ?_
|refine zH ?_
|refine zE rfl ?_
|refine zM rfl ?_
|refine zL ?_
|refine zO ?_
|refine zC ?_
|refine zN ?_
|refine zAG ?_
|refine zB ?_
|refine ⟨_,by conv => lhs; whnf; arg 2; whnf,?_⟩; conv => rhs; whnf
|exact trivial
|intro hg)
       all_goals first
        | exact zx hi
        | exact zx hi2
        | skip
   . have f1 : decide ((i : Int) < (l.length : Nat)) = false:=decide_eq_false (by omega)
     rw [zA1 hlen fun q hq => hall q (by omega)]
     repeat' (first
|apply zG
 . conv => lhs; whnf
 . assumption
|apply zF
 . conv => lhs; whnf
 . assumption
|refine ze ?_
|refine zY ?_
|refine zAP ?_
|refine zA ?_
|refine zI ?_
|refine zZ ?_
|refine zW ?_
|refine zi ?_
|apply aw_1
 conv => whnf
 refine ⟨?_,trivial⟩
|apply s_1
 conv => whnf; arg 1; arg 4; arg 3; whnf
 refine ⟨?_,?_⟩
|apply zAF rfl
 . conv => lhs; whnf
 . conv => lhs; whnf; arg 2; whnf
|apply zq (by kernel_rfl) (by kernel_rfl)
|apply zAR
|apply zAQ rfl
 . conv => lhs; whnf
 . conv => lhs; whnf; arg 2; whnf
|exact zR
|exact zX
|exact all_nil
|show List.all _ _ = true; rfl
|show zAC _ _ = true; rfl
|exact ([] : List Nat)
|exact (1000000 : Nat)
|apply zS
 . conv => lhs; whnf; arg 1; arg 1; whnf
|apply zU
 . conv => lhs; whnf; arg 1; arg 1; whnf
|refine zd (by conv => lhs; whnf) ?_ ?_ <;> intro hb
|refine zv ?_
|refine zh ?_
|refine zJ ?_
|refine zK ?_
|refine zH ?_
|refine zE rfl ?_
|refine zM rfl ?_
|refine zL ?_
|refine zO ?_
|refine zC ?_
|refine zN ?_
|refine zAG ?_
|refine zB ?_
|refine ⟨_,by conv => lhs; whnf; arg 2; whnf,?_⟩; conv => rhs; whnf
|exact trivial
|intro hg)
 . have f0 : ((l.length : Int) != (m.length : Int)) = true:=by simp; omega
   rw [zBd f0]
   refine zV 26 Tryd.func36 rfl rfl rfl rfl ?_
   intro s w he
   repeat' (first
|apply zG
 . conv => lhs; whnf
 . assumption
|apply zF
 . conv => lhs; whnf
 . assumption
|refine ze ?_
|refine zY ?_
|refine zAP ?_
|refine zA ?_
|refine zI ?_
|refine zZ ?_
|refine zW ?_
|refine zi ?_
|apply aw_1
 conv => whnf
 refine ⟨?_,trivial⟩
|apply s_1
 conv => whnf; arg 1; arg 4; arg 3; whnf
 refine ⟨?_,?_⟩
|apply zAF rfl
 . conv => lhs; whnf
 . conv => lhs; whnf; arg 2; whnf
|apply zq (by kernel_rfl) (by kernel_rfl)
|apply zAR
|apply zAQ rfl
 . conv => lhs; whnf
 . conv => lhs; whnf; arg 2; whnf
|exact zR
|exact zX
|exact all_nil
|show List.all _ _ = true; rfl
|show zAC _ _ = true; rfl
|exact ([] : List Nat)
|exact (1000000 : Nat)
|apply zS
 . conv => lhs; whnf; arg 1; arg 1; whnf
|apply zU
 . conv => lhs; whnf; arg 1; arg 1; whnf
|refine zd (by conv => lhs; whnf) ?_ ?_ <;> intro hb
|refine zv ?_
|refine zh ?_
|refine zJ ?_
|refine zK ?_
|refine zH ?_
|refine zE rfl ?_
|refine zM rfl ?_
|refine zL ?_
|refine zO ?_
|refine zC ?_
|refine zN ?_
|refine zAG ?_
|refine zB ?_
|refine ⟨_,by conv => lhs; whnf; arg 2; whnf,?_⟩; conv => rhs; whnf
|exact trivial
|intro hg)
noncomputable def HzD7 (l m : List D) (i : Nat) : Vst 95:=stS 95 [(0,.sl 64 l),(1,.sl 64 m),(5,.c (.int .i64 (i : Int)))] []
noncomputable def HzE7 (l m : List D) (i k : Nat) : Vst 95:=stS 95 [(0,.sl 64 l),(1,.sl 64 m),(5,.c (.int .i64 (i : Int))),(6,.c (.int .i64 (k : Int)))] []
theorem zD0 (l m : List D) (hl : bulkL l <= 100000000) (hm : bulkL m <= 100000000) : AC EN Tryd.prog 37 [.sl 64 l,.sl 64 m] (.c (.bool (eqL dirEq l m))):=by
 have hll:=zAY l
 by_cases hlen : l.length = m.length
 . have f0 : ((l.length : Int) != (m.length : Int)) = false:=by simp [hlen]
   refine zV 95 Tryd.func37 rfl rfl rfl rfl ?_
   intro s w he
   repeat' (first
|apply zG
 . conv => lhs; whnf
 . assumption
|apply zF
 . conv => lhs; whnf
 . assumption
|refine ze ?_
|refine zY ?_
|refine zAP ?_
|refine zA ?_
|refine zI ?_
|refine zZ ?_
|refine zW ?_
|refine zi ?_
|apply aw_1
 conv => whnf
 refine ⟨?_,trivial⟩
|apply zn rfl rfl
 . conv => lhs; whnf
 . conv => lhs; whnf
 . first | exact bT1 ‹_› | exact bT2 ‹_›
|apply zl rfl rfl
 . conv => lhs; whnf
 . conv => lhs; whnf
 . first | exact bF1 ‹_› | exact bF2 ‹_›
|apply s_1
 conv => whnf; arg 1; arg 4; arg 3; whnf
 refine ⟨?_,?_⟩
|apply zAF rfl
 . conv => lhs; whnf
 . conv => lhs; whnf; arg 2; whnf
|apply zk rfl
 . conv => lhs; whnf
 . conv => lhs; whnf
 . first | fail
|apply zQ rfl
 . conv => lhs; whnf
 . conv => lhs; whnf
 . first | rfl | assumption
 . conv => lhs; whnf; arg 2; whnf
|apply zP rfl
 . conv => lhs; whnf
 . conv => lhs; whnf
 . first | rfl | assumption
 . conv => lhs; whnf
 . first | fail
|apply zBM rfl
 . conv => lhs; whnf
 . conv => lhs; whnf
 . first | rfl | assumption
|apply zm rfl
 . conv => lhs; whnf
 . conv => lhs; whnf
 . conv => lhs; whnf; arg 2; whnf
|apply zg rfl
 . conv => lhs; whnf
 . conv => lhs; whnf
 . conv => lhs; whnf
 . first | fail
|apply zq (by kernel_rfl) (by kernel_rfl)
|apply zAR
|apply zAb rfl rfl
 . conv => lhs; whnf
 . conv => lhs; whnf
 . first | exact bT1 ‹_› | exact bT2 ‹_›
|apply zAX rfl rfl
 . conv => lhs; whnf
 . conv => lhs; whnf
 . first | exact bF1 ‹_› | exact bF2 ‹_›
|apply zAQ rfl
 . conv => lhs; whnf
 . conv => lhs; whnf; arg 2; whnf
|apply zAU rfl
 . conv => lhs; whnf
 . conv => lhs; whnf
 . first | fail
|apply zz rfl
 . conv => lhs; whnf
 . conv => lhs; whnf
 . first | rfl | assumption
 . conv => lhs; whnf; arg 2; whnf
|apply zw rfl
 . conv => lhs; whnf
 . conv => lhs; whnf
 . first | rfl | assumption
 . conv => lhs; whnf
 . first | fail
|apply zAt rfl
 . conv => lhs; whnf
 . conv => lhs; whnf
 . first | rfl | assumption
|apply zAJ rfl
 . conv => lhs; whnf
 . conv => lhs; whnf
 . conv => lhs; whnf; arg 2; whnf
|apply zAD rfl
 . conv => lhs; whnf
 . conv => lhs; whnf
 . conv => lhs; whnf
 . first | fail
|exact zR
|exact zX
|exact all_nil
|show List.all _ _ = true; rfl
|show zAC _ _ = true; rfl
|exact ([] : List Nat)
|exact (1000000 : Nat)
|apply zS
 . conv => lhs; whnf; arg 1; arg 1; whnf
|apply zU
 . conv => lhs; whnf; arg 1; arg 1; whnf
|refine zd (by conv => lhs; whnf) ?_ ?_ <;> intro hb
|refine zv ?_
|refine zh ?_
|refine zJ ?_
|refine zK ?_
|refine zH ?_
|refine zE rfl ?_
|refine zM rfl ?_
|refine zL ?_
|refine zO ?_
|refine zC ?_
|refine zN ?_
|refine zAG ?_
|refine zB ?_
|refine ⟨_,by conv => lhs; whnf; arg 2; whnf,?_⟩; conv => rhs; whnf
|exact trivial
|intro hg)
   refine z7 (fun j st => ∃ i,i + j = l.length /\ (∀ q,q < i -> dirEq (gD l q) (gD m q) = true) /\ Sub (cx EN Tryd.prog s w he) st (HzD7 l m i)) l.length ⟨0,by omega,fun q hq => by omega,Sub.live ⟨rfl,rfl,rfl,trivial⟩ trivial⟩ ?_
   rintro j st ⟨i,hij,hall,hs2⟩
   refine zAA hs2 ?_
   clear hs2
   by_cases hi : i < l.length
   . have f1 : decide ((i : Int) < (l.length : Nat)) = true:=decide_eq_true (by omega)
     have hi2 : i < m.length:=by omega
     have bx:=zAZ hi hl
     have by_:=zAZ hi2 hm
     have kT:=zHU
     have kF:=zHV
     have fT:=zDc
     rcases chain2 (((gD l i).f 0).s.toList == ((gD m i).f 0).s.toList) ((((gD l i).f 1).l.length : Int) == (((gD m i).f 1).l.length : Int)) with e0 | ⟨e0,e1⟩ | ⟨e0,e1⟩
     . obtain ⟨f0a,f0b,k0⟩:=b_f (t:=(!(((gD l i).f 0).s.toList == ((gD m i).f 0).s.toList))) e0 rfl
       have e : dirEq (gD l i) (gD m i) = false:=by unfold dirEq; rw [show sEq ((gD l i).f 0) ((gD m i).f 0) = (((gD l i).f 0).s.toList == ((gD m i).f 0).s.toList) from rfl]; simp only [e0,Bool.true_and,Bool.false_and,Bool.and_false]
       rw [zAg hi e]
       repeat' (first
|apply s_wanted_pick_t rfl rfl rfl
 . conv => lhs; whnf
 . first | rfl | assumption
 . conv => lhs; whnf
 . first | exact bT1 ‹_› | exact bT2 ‹_› | rfl
|apply zAK rfl rfl rfl
 . conv => lhs; whnf
 . first | rfl | assumption
 . conv => lhs; whnf
 . first | exact bT1 ‹_› | exact bT2 ‹_› | rfl
|apply s_wanted_pick_f rfl rfl rfl
 . conv => lhs; whnf
 . first | rfl | assumption
 . conv => lhs; whnf
 . first | exact bF1 ‹_› | exact bF2 ‹_› | rfl
|apply zAL rfl rfl rfl
 . conv => lhs; whnf
 . first | rfl | assumption
 . conv => lhs; whnf
 . first | exact bF1 ‹_› | exact bF2 ‹_› | rfl
|apply zG
 . conv => lhs; whnf
 . assumption
|apply zF
 . conv => lhs; whnf
 . assumption
|exact (k0 ‹_›).elim
|exact (kT ‹_›).elim
|exact (kF ‹_›).elim
|refine ze ?_
|refine zY ?_
|refine zAP ?_
|refine zA ?_
|refine zI ?_
|refine zZ ?_
|refine zW ?_
|refine zi ?_
|apply aw_1
 conv => whnf
 refine ⟨?_,trivial⟩
|apply zn rfl rfl
 . conv => lhs; whnf
 . conv => lhs; whnf
 . first | exact bT1 ‹_› | exact bT2 ‹_›
|apply zl rfl rfl
 . conv => lhs; whnf
 . conv => lhs; whnf
 . first | exact bF1 ‹_› | exact bF2 ‹_›
|apply s_1
 conv => whnf; arg 1; arg 4; arg 3; whnf
 refine ⟨?_,?_⟩
|apply zAF rfl
 . conv => lhs; whnf
 . conv => lhs; whnf; arg 2; whnf
|apply zk rfl
 . conv => lhs; whnf
 . conv => lhs; whnf
 . first | fail
|apply zQ rfl
 . conv => lhs; whnf
 . conv => lhs; whnf
 . first | rfl | assumption
 . conv => lhs; whnf; arg 2; whnf
|apply zP rfl
 . conv => lhs; whnf
 . conv => lhs; whnf
 . first | rfl | assumption
 . conv => lhs; whnf
 . first | fail
|apply zAB rfl
 . conv => lhs; whnf
 . conv => lhs; whnf
 . first | rfl | assumption
|apply zAm rfl
 . conv => lhs; whnf
 . rfl
 . rfl
|apply zb rfl
 . conv => lhs; whnf
 . conv => lhs; whnf
 . conv => lhs; whnf; arg 2; whnf
|apply zt rfl
 . conv => lhs; whnf
 . conv => lhs; whnf
 . conv => lhs; whnf
 . first | fail
|apply zm rfl
 . conv => lhs; whnf
 . conv => lhs; whnf
 . conv => lhs; whnf; arg 2; whnf
|apply zg rfl
 . conv => lhs; whnf
 . conv => lhs; whnf
 . conv => lhs; whnf
 . first | fail
|apply zq (by kernel_rfl) (by kernel_rfl)
|apply zAR
|apply zAb rfl rfl
 . conv => lhs; whnf
 . conv => lhs; whnf
 . first | exact bT1 ‹_› | exact bT2 ‹_›
|apply zAX rfl rfl
 . conv => lhs; whnf
 . conv => lhs; whnf
 . first | exact bF1 ‹_› | exact bF2 ‹_›
|apply zAQ rfl
 . conv => lhs; whnf
 . conv => lhs; whnf; arg 2; whnf
|apply zAU rfl
 . conv => lhs; whnf
 . conv => lhs; whnf
 . first | fail
|apply zz rfl
 . conv => lhs; whnf
 . conv => lhs; whnf
 . first | rfl | assumption
 . conv => lhs; whnf; arg 2; whnf
|apply zw rfl
 . conv => lhs; whnf
 . conv => lhs; whnf
 . first | rfl | assumption
 . conv => lhs; whnf
 . first | fail
|apply zAt rfl
 . conv => lhs; whnf
 . conv => lhs; whnf
 . first | rfl | assumption
|apply zAJ rfl
 . conv => lhs; whnf
 . conv => lhs; whnf
 . conv => lhs; whnf; arg 2; whnf
|apply zAD rfl
 . conv => lhs; whnf
 . conv => lhs; whnf
 . conv => lhs; whnf
 . first | fail
|exact zR
|exact zX
|exact all_nil
|show List.all _ _ = true; rfl
|show zAC _ _ = true; rfl
|exact ([] : List Nat)
|exact (1000000 : Nat)
|apply zS
 . conv => lhs; whnf; arg 1; arg 1; whnf
|apply zU
 . conv => lhs; whnf; arg 1; arg 1; whnf
|refine zd (by conv => lhs; whnf) ?_ ?_ <;> intro hb
|refine zv ?_
|refine zh ?_
|refine zJ ?_
|refine zK ?_
|refine zH ?_
|refine zE rfl ?_
|refine zM rfl ?_
|refine zL ?_
|refine zO ?_
|refine zC ?_
|refine zN ?_
|refine zAG ?_
|refine zB ?_
|refine ⟨_,by conv => lhs; whnf; arg 2; whnf,?_⟩; conv => rhs; whnf
|exact trivial
|intro hg)
       all_goals first
        | exact zu (by omega)
        | exact zx hi
        | exact zx hi2
        | rfl
        | exact (show Tryd.prog.underlying _ = some .bool by kernel_rfl)
        | skip
     . obtain ⟨f0a,f0b,k0⟩:=b_t (t:=(!(((gD l i).f 0).s.toList == ((gD m i).f 0).s.toList))) e0 rfl
       obtain ⟨f1a,f1b,k1⟩:=b_f (t:=((((gD l i).f 1).l.length : Int) != (((gD m i).f 1).l.length : Int))) e1 rfl
       have z:=zBd (f:=argEq) (l:=((gD l i).f 1).l) (m:=((gD m i).f 1).l) (lenI_f e1)
       have e : dirEq (gD l i) (gD m i) = false:=by unfold dirEq; rw [show sEq ((gD l i).f 0) ((gD m i).f 0) = (((gD l i).f 0).s.toList == ((gD m i).f 0).s.toList) from rfl]; simp only [e0,z,Bool.true_and,Bool.false_and,Bool.and_false]
       rw [zAg hi e]
       repeat' (first
|apply s_wanted_pick_t rfl rfl rfl
 . conv => lhs; whnf
 . first | rfl | assumption
 . conv => lhs; whnf
 . first | exact bT1 ‹_› | exact bT2 ‹_› | rfl
|apply zAK rfl rfl rfl
 . conv => lhs; whnf
 . first | rfl | assumption
 . conv => lhs; whnf
 . first | exact bT1 ‹_› | exact bT2 ‹_› | rfl
|apply s_wanted_pick_f rfl rfl rfl
 . conv => lhs; whnf
 . first | rfl | assumption
 . conv => lhs; whnf
 . first | exact bF1 ‹_› | exact bF2 ‹_› | rfl
|apply zAL rfl rfl rfl
 . conv => lhs; whnf
 . first | rfl | assumption
 . conv => lhs; whnf
 . first | exact bF1 ‹_› | exact bF2 ‹_› | rfl
|apply zG
 . conv => lhs; whnf
 . assumption
|apply zF
 . conv => lhs; whnf
 . assumption
|exact (k0 ‹_›).elim
|exact (k1 ‹_›).elim
|exact (kT ‹_›).elim
|exact (kF ‹_›).elim
|refine ze ?_
|refine zY ?_
|refine zAP ?_
|refine zA ?_
|refine zI ?_
|refine zZ ?_
|refine zW ?_
|refine zi ?_
|apply aw_1
 conv => whnf
 refine ⟨?_,trivial⟩
|apply zn rfl rfl
 . conv => lhs; whnf
 . conv => lhs; whnf
 . first | exact bT1 ‹_› | exact bT2 ‹_›
|apply zl rfl rfl
 . conv => lhs; whnf
 . conv => lhs; whnf
 . first | exact bF1 ‹_› | exact bF2 ‹_›
|apply s_1
 conv => whnf; arg 1; arg 4; arg 3; whnf
 refine ⟨?_,?_⟩
|apply zAF rfl
 . conv => lhs; whnf
 . conv => lhs; whnf; arg 2; whnf
|apply zk rfl
 . conv => lhs; whnf
 . conv => lhs; whnf
 . first | fail
|apply zQ rfl
 . conv => lhs; whnf
 . conv => lhs; whnf
 . first | rfl | assumption
 . conv => lhs; whnf; arg 2; whnf
|apply zP rfl
 . conv => lhs; whnf
 . conv => lhs; whnf
 . first | rfl | assumption
 . conv => lhs; whnf
 . first | fail
|apply zAB rfl
 . conv => lhs; whnf
 . conv => lhs; whnf
 . first | rfl | assumption
|apply zAm rfl
 . conv => lhs; whnf
 . rfl
 . rfl
|apply zb rfl
 . conv => lhs; whnf
 . conv => lhs; whnf
 . conv => lhs; whnf; arg 2; whnf
|apply zt rfl
 . conv => lhs; whnf
 . conv => lhs; whnf
 . conv => lhs; whnf
 . first | fail
|apply zm rfl
 . conv => lhs; whnf
 . conv => lhs; whnf
 . conv => lhs; whnf; arg 2; whnf
|apply zg rfl
 . conv => lhs; whnf
 . conv => lhs; whnf
 . conv => lhs; whnf
 . first | fail
|apply zq (by kernel_rfl) (by kernel_rfl)
|apply zAR
|apply zAb rfl rfl
 . conv => lhs; whnf
 . conv => lhs; whnf
 . first | exact bT1 ‹_› | exact bT2 ‹_›
|apply zAX rfl rfl
 . conv => lhs; whnf
 . conv => lhs; whnf
 . first | exact bF1 ‹_› | exact bF2 ‹_›
|apply zAQ rfl
 . conv => lhs; whnf
 . conv => lhs; whnf; arg 2; whnf
|apply zAU rfl
 . conv => lhs; whnf
 . conv => lhs; whnf
 . first | fail
|apply zz rfl
 . conv => lhs; whnf
 . conv => lhs; whnf
 . first | rfl | assumption
 . conv => lhs; whnf; arg 2; whnf
|apply zw rfl
 . conv => lhs; whnf
 . conv => lhs; whnf
 . first | rfl | assumption
 . conv => lhs; whnf
 . first | fail
|apply zAt rfl
 . conv => lhs; whnf
 . conv => lhs; whnf
 . first | rfl | assumption
|apply zAJ rfl
 . conv => lhs; whnf
 . conv => lhs; whnf
 . conv => lhs; whnf; arg 2; whnf
|apply zAD rfl
 . conv => lhs; whnf
 . conv => lhs; whnf
 . conv => lhs; whnf
 . first | fail
|exact zR
|exact zX
|exact all_nil
|show List.all _ _ = true; rfl
|show zAC _ _ = true; rfl
|exact ([] : List Nat)
|exact (1000000 : Nat)
|apply zS
 . conv => lhs; whnf; arg 1; arg 1; whnf
|apply zU
 . conv => lhs; whnf; arg 1; arg 1; whnf
|refine zd (by conv => lhs; whnf) ?_ ?_ <;> intro hb
|refine zv ?_
|refine zh ?_
|refine zJ ?_
|refine zK ?_
|refine zH ?_
|refine zE rfl ?_
|refine zM rfl ?_
|refine zL ?_
|refine zO ?_
|refine zC ?_
|refine zN ?_
|refine zAG ?_
|refine zB ?_
|refine ⟨_,by conv => lhs; whnf; arg 2; whnf,?_⟩; conv => rhs; whnf
|exact trivial
|intro hg)
       all_goals first
        | exact zu (by omega)
        | exact zx hi
        | exact zx hi2
        | rfl
        | exact (show Tryd.prog.underlying _ = some .bool by kernel_rfl)
        | skip
     . obtain ⟨f0a,f0b,k0⟩:=b_t (t:=(!(((gD l i).f 0).s.toList == ((gD m i).f 0).s.toList))) e0 rfl
       obtain ⟨f1a,f1b,k1⟩:=b_t (t:=((((gD l i).f 1).l.length : Int) != (((gD m i).f 1).l.length : Int))) e1 rfl
       have hln:=lenI_t e1
       repeat' (first
|apply s_wanted_pick_t rfl rfl rfl
 . conv => lhs; whnf
 . first | rfl | assumption
 . conv => lhs; whnf
 . first | exact bT1 ‹_› | exact bT2 ‹_› | rfl
|apply zAK rfl rfl rfl
 . conv => lhs; whnf
 . first | rfl | assumption
 . conv => lhs; whnf
 . first | exact bT1 ‹_› | exact bT2 ‹_› | rfl
|apply s_wanted_pick_f rfl rfl rfl
 . conv => lhs; whnf
 . first | rfl | assumption
 . conv => lhs; whnf
 . first | exact bF1 ‹_› | exact bF2 ‹_› | rfl
|apply zAL rfl rfl rfl
 . conv => lhs; whnf
 . first | rfl | assumption
 . conv => lhs; whnf
 . first | exact bF1 ‹_› | exact bF2 ‹_› | rfl
|apply zG
 . conv => lhs; whnf
 . assumption
|apply zF
 . conv => lhs; whnf
 . assumption
|exact (k0 ‹_›).elim
|exact (k1 ‹_›).elim
|exact (kT ‹_›).elim
|exact (kF ‹_›).elim
|refine ze ?_
|refine zY ?_
|refine zAP ?_
|refine zA ?_
|refine zI ?_
|refine zZ ?_
|refine zW ?_
|refine zi ?_
|apply aw_1
 conv => whnf
 refine ⟨?_,trivial⟩
|apply zn rfl rfl
 . conv => lhs; whnf
 . conv => lhs; whnf
 . first | exact bT1 ‹_› | exact bT2 ‹_›
|apply zl rfl rfl
 . conv => lhs; whnf
 . conv => lhs; whnf
 . first | exact bF1 ‹_› | exact bF2 ‹_›
|apply s_1
 conv => whnf; arg 1; arg 4; arg 3; whnf
 refine ⟨?_,?_⟩
|apply zAF rfl
 . conv => lhs; whnf
 . conv => lhs; whnf; arg 2; whnf
|apply zk rfl
 . conv => lhs; whnf
 . conv => lhs; whnf
 . first | fail
|apply zQ rfl
 . conv => lhs; whnf
 . conv => lhs; whnf
 . first | rfl | assumption
 . conv => lhs; whnf; arg 2; whnf
|apply zP rfl
 . conv => lhs; whnf
 . conv => lhs; whnf
 . first | rfl | assumption
 . conv => lhs; whnf
 . first | fail
|apply zAB rfl
 . conv => lhs; whnf
 . conv => lhs; whnf
 . first | rfl | assumption
|apply zAm rfl
 . conv => lhs; whnf
 . rfl
 . rfl
|apply zb rfl
 . conv => lhs; whnf
 . conv => lhs; whnf
 . conv => lhs; whnf; arg 2; whnf
|apply zt rfl
 . conv => lhs; whnf
 . conv => lhs; whnf
 . conv => lhs; whnf
 . first | fail
|apply zm rfl
 . conv => lhs; whnf
 . conv => lhs; whnf
 . conv => lhs; whnf; arg 2; whnf
|apply zg rfl
 . conv => lhs; whnf
 . conv => lhs; whnf
 . conv => lhs; whnf
 . first | fail
|apply zq (by kernel_rfl) (by kernel_rfl)
|apply zAR
|apply zAb rfl rfl
 . conv => lhs; whnf
 . conv => lhs; whnf
 . first | exact bT1 ‹_› | exact bT2 ‹_›
|apply zAX rfl rfl
 . conv => lhs; whnf
 . conv => lhs; whnf
 . first | exact bF1 ‹_› | exact bF2 ‹_›
|apply zAQ rfl
 . conv => lhs; whnf
 . conv => lhs; whnf; arg 2; whnf
|apply zAU rfl
 . conv => lhs; whnf
 . conv => lhs; whnf
 . first | fail
|apply zz rfl
 . conv => lhs; whnf
 . conv => lhs; whnf
 . first | rfl | assumption
 . conv => lhs; whnf; arg 2; whnf
|apply zw rfl
 . conv => lhs; whnf
 . conv => lhs; whnf
 . first | rfl | assumption
 . conv => lhs; whnf
 . first | fail
|apply zAt rfl
 . conv => lhs; whnf
 . conv => lhs; whnf
 . first | rfl | assumption
|apply zAJ rfl
 . conv => lhs; whnf
 . conv => lhs; whnf
 . conv => lhs; whnf; arg 2; whnf
|apply zAD rfl
 . conv => lhs; whnf
 . conv => lhs; whnf
 . conv => lhs; whnf
 . first | fail
|exact zR
|exact zX
|exact all_nil
|show List.all _ _ = true; rfl
|show zAC _ _ = true; rfl
|exact ([] : List Nat)
|exact (1000000 : Nat)
|apply zS
 . conv => lhs; whnf; arg 1; arg 1; whnf
|apply zU
 . conv => lhs; whnf; arg 1; arg 1; whnf
|refine zd (by conv => lhs; whnf) ?_ ?_ <;> intro hb
|refine zv ?_
|refine zh ?_
|refine zJ ?_
|refine zK ?_
|refine zH ?_
|refine zE rfl ?_
|refine zM rfl ?_
|refine zL ?_
|refine zO ?_
|refine zC ?_
|refine zN ?_
|refine zAG ?_
|refine zB ?_
|refine ⟨_,by conv => lhs; whnf; arg 2; whnf,?_⟩; conv => rhs; whnf
|exact trivial
|intro hg)
       all_goals first
        | exact zu (by omega)
        | exact zx hi
        | exact zx hi2
        | skip
       clear f0a f0b k0 f1a f1b k1
       refine z7 (fun j st => ∃ k,k + j = ((gD l i).f 1).l.length /\ (∀ q,q < k -> argEq (gD ((gD l i).f 1).l q) (gD ((gD m i).f 1).l q) = true) /\ Sub (cx EN Tryd.prog s w he) st (HzE7 l m i k)) ((gD l i).f 1).l.length ⟨0,by omega,fun q hq => by omega,Sub.live ⟨rfl,rfl,rfl,rfl,trivial⟩ trivial⟩ ?_
       rintro j2 st2 ⟨k,hkj,hal2,hs3⟩
       refine zAA hs3 ?_
       clear hs3
       have b1:=zr (gD l i) 1
       have b2:=zr (gD m i) 1
       have b3:=zAY ((gD l i).f 1).l
       by_cases hk : k < ((gD l i).f 1).l.length
       . have g1 : decide ((k : Int) < (((gD l i).f 1).l.length : Nat)) = true:=decide_eq_true (by omega)
         have hk2 : k < ((gD m i).f 1).l.length:=by omega
         have bk:=zAZ hk (Nat.le_refl _)
         have bk2:=zAZ hk2 (Nat.le_refl _)
         have h1:=valR_ac ((gD ((gD l i).f 1).l k).f 1) ((gD ((gD m i).f 1).l k).f 1) (by have:=zr (gD ((gD l i).f 1).l k) 1; omega) (by have:=zr (gD ((gD m i).f 1).l k) 1; omega)
         have kT:=zHU
         have kF:=zHV
         have fT:=zDc
         rcases chain2 (((gD ((gD l i).f 1).l k).f 0).s.toList == ((gD ((gD m i).f 1).l k).f 0).s.toList) (zEu ((gD ((gD l i).f 1).l k).f 1) ((gD ((gD m i).f 1).l k).f 1)) with e0 | ⟨e0,e1⟩ | ⟨e0,e1⟩
         . obtain ⟨f0a,f0b,k0⟩:=b_f (t:=(!(((gD ((gD l i).f 1).l k).f 0).s.toList == ((gD ((gD m i).f 1).l k).f 0).s.toList))) e0 rfl
           have e : argEq (gD ((gD l i).f 1).l k) (gD ((gD m i).f 1).l k) = false:=by unfold argEq; rw [show sEq ((gD ((gD l i).f 1).l k).f 0) ((gD ((gD m i).f 1).l k).f 0) = (((gD ((gD l i).f 1).l k).f 0).s.toList == ((gD ((gD m i).f 1).l k).f 0).s.toList) from rfl]; simp only [e0,Bool.true_and,Bool.false_and,Bool.and_false]
           have e5 : dirEq (gD l i) (gD m i) = false:=by unfold dirEq; rw [zAg hk e,Bool.and_false]
           rw [zAg hi e5]
           repeat' (first
|apply s_wanted_pick_t rfl rfl rfl
 . conv => lhs; whnf
 . first | rfl | assumption
 . conv => lhs; whnf
 . first | exact bT1 ‹_› | exact bT2 ‹_› | rfl
|apply zAK rfl rfl rfl
 . conv => lhs; whnf
 . first | rfl | assumption
 . conv => lhs; whnf
 . first | exact bT1 ‹_› | exact bT2 ‹_› | rfl
|apply s_wanted_pick_f rfl rfl rfl
 . conv => lhs; whnf
 . first | rfl | assumption
 . conv => lhs; whnf
 . first | exact bF1 ‹_› | exact bF2 ‹_› | rfl
|apply zAL rfl rfl rfl
 . conv => lhs; whnf
 . first | rfl | assumption
 . conv => lhs; whnf
 . first | exact bF1 ‹_› | exact bF2 ‹_› | rfl
|apply zG
 . conv => lhs; whnf
 . assumption
|apply zF
 . conv => lhs; whnf
 . assumption
|exact (k0 ‹_›).elim
|exact (kT ‹_›).elim
|exact (kF ‹_›).elim
|refine ze ?_
|refine zY ?_
|refine zAP ?_
|refine zA ?_
|refine zI ?_
|refine zZ ?_
|refine zW ?_
|refine zi ?_
|apply aw_1
 conv => whnf
 refine ⟨?_,trivial⟩
|apply zn rfl rfl
 . conv => lhs; whnf
 . conv => lhs; whnf
 . first | exact bT1 ‹_› | exact bT2 ‹_›
|apply zl rfl rfl
 . conv => lhs; whnf
 . conv => lhs; whnf
 . first | exact bF1 ‹_› | exact bF2 ‹_›
|apply s_1
 conv => whnf; arg 1; arg 4; arg 3; whnf
 refine ⟨?_,?_⟩
|apply zAF rfl
 . conv => lhs; whnf
 . conv => lhs; whnf; arg 2; whnf
|apply zk rfl
 . conv => lhs; whnf
 . conv => lhs; whnf
 . first | fail
|apply zQ rfl
 . conv => lhs; whnf
 . conv => lhs; whnf
 . first | rfl | assumption
 . conv => lhs; whnf; arg 2; whnf
|apply zP rfl
 . conv => lhs; whnf
 . conv => lhs; whnf
 . first | rfl | assumption
 . conv => lhs; whnf
 . first | fail
|apply zAB rfl
 . conv => lhs; whnf
 . conv => lhs; whnf
 . first | rfl | assumption
|apply zAm rfl
 . conv => lhs; whnf
 . rfl
 . rfl
|apply zb rfl
 . conv => lhs; whnf
 . conv => lhs; whnf
 . conv => lhs; whnf; arg 2; whnf
|apply zt rfl
 . conv => lhs; whnf
 . conv => lhs; whnf
 . conv => lhs; whnf
 . first | fail
|apply zm rfl
 . conv => lhs; whnf
 . conv => lhs; whnf
 . conv => lhs; whnf; arg 2; whnf
|apply zg rfl
 . conv => lhs; whnf
 . conv => lhs; whnf
 . conv => lhs; whnf
 . first | fail
|apply zq (by kernel_rfl) (by kernel_rfl)
|apply zAR
|apply zAb rfl rfl
 . conv => lhs; whnf
 . conv => lhs; whnf
 . first | exact bT1 ‹_› | exact bT2 ‹_›
|apply zAX rfl rfl
 . conv => lhs; whnf
 . conv => lhs; whnf
 . first | exact bF1 ‹_› | exact bF2 ‹_›
|apply zAQ rfl
 . conv => lhs; whnf
 . conv => lhs; whnf; arg 2; whnf
|apply zAU rfl
 . conv => lhs; whnf
 . conv => lhs; whnf
 . first | fail
|apply zz rfl
 . conv => lhs; whnf
 . conv => lhs; whnf
 . first | rfl | assumption
 . conv => lhs; whnf; arg 2; whnf
|apply zw rfl
 . conv => lhs; whnf
 . conv => lhs; whnf
 . first | rfl | assumption
 . conv => lhs; whnf
 . first | fail
|apply zAt rfl
 . conv => lhs; whnf
 . conv => lhs; whnf
 . first | rfl | assumption
|apply zAJ rfl
 . conv => lhs; whnf
 . conv => lhs; whnf
 . conv => lhs; whnf; arg 2; whnf
|apply zAD rfl
 . conv => lhs; whnf
 . conv => lhs; whnf
 . conv => lhs; whnf
 . first | fail
|exact zR
|exact zX
|exact all_nil
|show List.all _ _ = true; rfl
|show zAC _ _ = true; rfl
|exact ([] : List Nat)
|exact (1000000 : Nat)
|apply zS
 . conv => lhs; whnf; arg 1; arg 1; whnf
|apply zU
 . conv => lhs; whnf; arg 1; arg 1; whnf
|refine zd (by conv => lhs; whnf) ?_ ?_ <;> intro hb
|refine zv ?_
|refine zh ?_
|refine zJ ?_
|refine zK ?_
|refine zH ?_
|refine zE rfl ?_
|refine zM rfl ?_
|refine zL ?_
|refine zO ?_
|refine zC ?_
|refine zN ?_
|refine zAG ?_
|refine zB ?_
|refine ⟨_,by conv => lhs; whnf; arg 2; whnf,?_⟩; conv => rhs; whnf
|exact trivial
|intro hg)
           all_goals first
            | exact zu (by omega)
            | exact zx hi
            | exact zx hi2
            | exact zx hk
            | exact zx hk2
            | rfl
            | exact (show Tryd.prog.underlying _ = some .bool by kernel_rfl)
            | skip
         . obtain ⟨f0a,f0b,k0⟩:=b_t (t:=(!(((gD ((gD l i).f 1).l k).f 0).s.toList == ((gD ((gD m i).f 1).l k).f 0).s.toList))) e0 rfl
           rw [e1] at h1
           have e : argEq (gD ((gD l i).f 1).l k) (gD ((gD m i).f 1).l k) = false:=by unfold argEq; rw [show sEq ((gD ((gD l i).f 1).l k).f 0) ((gD ((gD m i).f 1).l k).f 0) = (((gD ((gD l i).f 1).l k).f 0).s.toList == ((gD ((gD m i).f 1).l k).f 0).s.toList) from rfl]; simp only [e0,e1,Bool.true_and,Bool.false_and,Bool.and_false]
           have e5 : dirEq (gD l i) (gD m i) = false:=by unfold dirEq; rw [zAg hk e,Bool.and_false]
           rw [zAg hi e5]
           repeat' (first
|apply s_wanted_pick_t rfl rfl rfl
 . conv => lhs; whnf
 . first | rfl | assumption
 . conv => lhs; whnf
 . first | exact bT1 ‹_› | exact bT2 ‹_› | rfl
|apply zAK rfl rfl rfl
 . conv => lhs; whnf
 . first | rfl | assumption
 . conv => lhs; whnf
 . first | exact bT1 ‹_› | exact bT2 ‹_› | rfl
|apply s_wanted_pick_f rfl rfl rfl
 . conv => lhs; whnf
 . first | rfl | assumption
 . conv => lhs; whnf
 . first | exact bF1 ‹_› | exact bF2 ‹_› | rfl
|apply zAL rfl rfl rfl
 . conv => lhs; whnf
 . first | rfl | assumption
 . conv => lhs; whnf
 . first | exact bF1 ‹_› | exact bF2 ‹_› | rfl
|apply zG
 . conv => lhs; whnf
 . assumption
|apply zF
 . conv => lhs; whnf
 . assumption
|exact (k0 ‹_›).elim
|exact (kT ‹_›).elim
|exact (kF ‹_›).elim
|refine ze ?_
|refine zY ?_
|refine zAP ?_
|refine zA ?_
|refine zI ?_
|refine zZ ?_
|refine zW ?_
|refine zi ?_
|apply aw_1
 conv => whnf
 refine ⟨?_,trivial⟩
|apply zn rfl rfl
 . conv => lhs; whnf
 . conv => lhs; whnf
 . first | exact bT1 ‹_› | exact bT2 ‹_›
|apply zl rfl rfl
 . conv => lhs; whnf
 . conv => lhs; whnf
 . first | exact bF1 ‹_› | exact bF2 ‹_›
|apply s_1
 conv => whnf; arg 1; arg 4; arg 3; whnf
 refine ⟨?_,?_⟩
|apply zAF rfl
 . conv => lhs; whnf
 . conv => lhs; whnf; arg 2; whnf
|apply zk rfl
 . conv => lhs; whnf
 . conv => lhs; whnf
 . first | exact h1
|apply zQ rfl
 . conv => lhs; whnf
 . conv => lhs; whnf
 . first | rfl | assumption
 . conv => lhs; whnf; arg 2; whnf
|apply zP rfl
 . conv => lhs; whnf
 . conv => lhs; whnf
 . first | rfl | assumption
 . conv => lhs; whnf
 . first | exact h1
|apply zAB rfl
 . conv => lhs; whnf
 . conv => lhs; whnf
 . first | rfl | assumption
|apply zAm rfl
 . conv => lhs; whnf
 . rfl
 . rfl
|apply zb rfl
 . conv => lhs; whnf
 . conv => lhs; whnf
 . conv => lhs; whnf; arg 2; whnf
|apply zt rfl
 . conv => lhs; whnf
 . conv => lhs; whnf
 . conv => lhs; whnf
 . first | exact h1
|apply zm rfl
 . conv => lhs; whnf
 . conv => lhs; whnf
 . conv => lhs; whnf; arg 2; whnf
|apply zg rfl
 . conv => lhs; whnf
 . conv => lhs; whnf
 . conv => lhs; whnf
 . first | exact h1
|apply zq (by kernel_rfl) (by kernel_rfl)
|apply zAR
|apply zAb rfl rfl
 . conv => lhs; whnf
 . conv => lhs; whnf
 . first | exact bT1 ‹_› | exact bT2 ‹_›
|apply zAX rfl rfl
 . conv => lhs; whnf
 . conv => lhs; whnf
 . first | exact bF1 ‹_› | exact bF2 ‹_›
|apply zAQ rfl
 . conv => lhs; whnf
 . conv => lhs; whnf; arg 2; whnf
|apply zAU rfl
 . conv => lhs; whnf
 . conv => lhs; whnf
 . first | exact h1
|apply zz rfl
 . conv => lhs; whnf
 . conv => lhs; whnf
 . first | rfl | assumption
 . conv => lhs; whnf; arg 2; whnf
|apply zw rfl
 . conv => lhs; whnf
 . conv => lhs; whnf
 . first | rfl | assumption
 . conv => lhs; whnf
 . first | exact h1
|apply zAt rfl
 . conv => lhs; whnf
 . conv => lhs; whnf
 . first | rfl | assumption
|apply zAJ rfl
 . conv => lhs; whnf
 . conv => lhs; whnf
 . conv => lhs; whnf; arg 2; whnf
|apply zAD rfl
 . conv => lhs; whnf
 . conv => lhs; whnf
 . conv => lhs; whnf
 . first | exact h1
|exact zR
|exact zX
|exact all_nil
|show List.all _ _ = true; rfl
|show zAC _ _ = true; rfl
|exact ([] : List Nat)
|exact (1000000 : Nat)
|apply zS
 . conv => lhs; whnf; arg 1; arg 1; whnf
|apply zU
 . conv => lhs; whnf; arg 1; arg 1; whnf
|refine zd (by conv => lhs; whnf) ?_ ?_ <;> intro hb
|refine zv ?_
|refine zh ?_
|refine zJ ?_
|refine zK ?_
|refine zH ?_
|refine zE rfl ?_
|refine zM rfl ?_
|refine zL ?_
|refine zO ?_
|refine zC ?_
|refine zN ?_
|refine zAG ?_
|refine zB ?_
|refine ⟨_,by conv => lhs; whnf; arg 2; whnf,?_⟩; conv => rhs; whnf
|exact trivial
|intro hg)
           all_goals first
            | exact zu (by omega)
            | exact zx hi
            | exact zx hi2
            | exact zx hk
            | exact zx hk2
            | rfl
            | exact (show Tryd.prog.underlying _ = some .bool by kernel_rfl)
            | skip
         . obtain ⟨f0a,f0b,k0⟩:=b_t (t:=(!(((gD ((gD l i).f 1).l k).f 0).s.toList == ((gD ((gD m i).f 1).l k).f 0).s.toList))) e0 rfl
           rw [e1] at h1
           have e : argEq (gD ((gD l i).f 1).l k) (gD ((gD m i).f 1).l k) = true:=by unfold argEq; rw [show sEq ((gD ((gD l i).f 1).l k).f 0) ((gD ((gD m i).f 1).l k).f 0) = (((gD ((gD l i).f 1).l k).f 0).s.toList == ((gD ((gD m i).f 1).l k).f 0).s.toList) from rfl]; simp only [e0,e1,Bool.true_and,Bool.false_and,Bool.and_false]; try rfl
           repeat' (first
|apply s_wanted_pick_t rfl rfl rfl
 . conv => lhs; whnf
 . first | rfl | assumption
 . conv => lhs; whnf
 . first | exact bT1 ‹_› | exact bT2 ‹_› | rfl
|apply zAK rfl rfl rfl
 . conv => lhs; whnf
 . first | rfl | assumption
 . conv => lhs; whnf
 . first | exact bT1 ‹_› | exact bT2 ‹_› | rfl
|apply s_wanted_pick_f rfl rfl rfl
 . conv => lhs; whnf
 . first | rfl | assumption
 . conv => lhs; whnf
 . first | exact bF1 ‹_› | exact bF2 ‹_› | rfl
|apply zAL rfl rfl rfl
 . conv => lhs; whnf
 . first | rfl | assumption
 . conv => lhs; whnf
 . first | exact bF1 ‹_› | exact bF2 ‹_› | rfl
|apply zG
 . conv => lhs; whnf
 . assumption
|apply zF
 . conv => lhs; whnf
 . assumption
|exact (k0 ‹_›).elim
|exact (kT ‹_›).elim
|exact (kF ‹_›).elim
|refine ze ?_
|refine zY ?_
|refine zAP ?_
|refine zA ?_
|refine zI ?_
|refine zZ ?_
|refine zW ?_
|refine zi ?_
|apply aw_1
 conv => whnf
 refine ⟨?_,trivial⟩
|apply zn rfl rfl
 . conv => lhs; whnf
 . conv => lhs; whnf
 . first | exact bT1 ‹_› | exact bT2 ‹_›
|apply zl rfl rfl
 . conv => lhs; whnf
 . conv => lhs; whnf
 . first | exact bF1 ‹_› | exact bF2 ‹_›
|apply s_1
 conv => whnf; arg 1; arg 4; arg 3; whnf
 refine ⟨?_,?_⟩
|apply zAF rfl
 . conv => lhs; whnf
 . conv => lhs; whnf; arg 2; whnf
|apply zk rfl
 . conv => lhs; whnf
 . conv => lhs; whnf
 . first | exact h1
|apply zQ rfl
 . conv => lhs; whnf
 . conv => lhs; whnf
 . first | rfl | assumption
 . conv => lhs; whnf; arg 2; whnf
|apply zP rfl
 . conv => lhs; whnf
 . conv => lhs; whnf
 . first | rfl | assumption
 . conv => lhs; whnf
 . first | exact h1
|apply zAB rfl
 . conv => lhs; whnf
 . conv => lhs; whnf
 . first | rfl | assumption
|apply zAm rfl
 . conv => lhs; whnf
 . rfl
 . rfl
|apply zb rfl
 . conv => lhs; whnf
 . conv => lhs; whnf
 . conv => lhs; whnf; arg 2; whnf
|apply zt rfl
 . conv => lhs; whnf
 . conv => lhs; whnf
 . conv => lhs; whnf
 . first | exact h1
|apply zm rfl
 . conv => lhs; whnf
 . conv => lhs; whnf
 . conv => lhs; whnf; arg 2; whnf
|apply zg rfl
 . conv => lhs; whnf
 . conv => lhs; whnf
 . conv => lhs; whnf
 . first | exact h1
|apply zq (by kernel_rfl) (by kernel_rfl)
|apply zAR
|apply zAb rfl rfl
 . conv => lhs; whnf
 . conv => lhs; whnf
 . first | exact bT1 ‹_› | exact bT2 ‹_›
|apply zAX rfl rfl
 . conv => lhs; whnf
 . conv => lhs; whnf
 . first | exact bF1 ‹_› | exact bF2 ‹_›
|apply zAQ rfl
 . conv => lhs; whnf
 . conv => lhs; whnf; arg 2; whnf
|apply zAU rfl
 . conv => lhs; whnf
 . conv => lhs; whnf
 . first | exact h1
|apply zz rfl
 . conv => lhs; whnf
 . conv => lhs; whnf
 . first | rfl | assumption
 . conv => lhs; whnf; arg 2; whnf
|apply zw rfl
 . conv => lhs; whnf
 . conv => lhs; whnf
 . first | rfl | assumption
 . conv => lhs; whnf
 . first | exact h1
|apply zAt rfl
 . conv => lhs; whnf
 . conv => lhs; whnf
 . first | rfl | assumption
|apply zAJ rfl
 . conv => lhs; whnf
 . conv => lhs; whnf
 . conv => lhs; whnf; arg 2; whnf
|apply zAD rfl
 . conv => lhs; whnf
 . conv => lhs; whnf
 . conv => lhs; whnf
 . first | exact h1
|exact zR
|exact zX
|exact all_nil
|show List.all _ _ = true; rfl
|show zAC _ _ = true; rfl
|exact ([] : List Nat)
|exact (1000000 : Nat)
|apply zS
 . conv => lhs; whnf; arg 1; arg 1; whnf
|apply zU
 . conv => lhs; whnf; arg 1; arg 1; whnf
|refine zd (by conv => lhs; whnf) ?_ ?_ <;> intro hb
|refine zv ?_
|refine zh ?_
|refine zJ ?_
|refine zK ?_
|refine zH ?_
|refine zE rfl ?_
|refine zM rfl ?_
|refine zL ?_
|refine zO ?_
|refine zC ?_
|refine zN ?_
|refine zAG ?_
|refine zB ?_
|refine ⟨_,by conv => lhs; whnf; arg 2; whnf,?_⟩; conv => rhs; whnf
|exact trivial
|intro hg)
           all_goals first
            | exact zu (by omega)
            | exact zx hi
            | exact zx hi2
            | exact zx hk
            | exact zx hk2
            | exact za (j':=j2 - 1) (by omega) ⟨k + 1,by omega,zB0 hal2 e,Sub.live ⟨rfl,rfl,rfl,rfl,trivial⟩ trivial⟩
            | rfl
            | exact (show Tryd.prog.underlying _ = some .bool by kernel_rfl)
            | skip
       . have g1 : decide ((k : Int) < (((gD l i).f 1).l.length : Nat)) = false:=decide_eq_false (by omega)
         have e : dirEq (gD l i) (gD m i) = true:=by
          unfold dirEq
          rw [show sEq ((gD l i).f 0) ((gD m i).f 0) = (((gD l i).f 0).s.toList == ((gD m i).f 0).s.toList) from rfl,e0,zA1 hln fun q hq => hal2 q (by omega)]; rfl
         repeat' (first
|apply zG
 . conv => lhs; whnf
 . assumption
|apply zF
 . conv => lhs; whnf
 . assumption
|refine ze ?_
|refine zY ?_
|refine zAP ?_
|refine zA ?_
|refine zI ?_
|refine zZ ?_
|refine zW ?_
|refine zi ?_
|apply aw_1
 conv => whnf
 refine ⟨?_,trivial⟩
|apply zn rfl rfl
 . conv => lhs; whnf
 . conv => lhs; whnf
 . first | exact bT1 ‹_› | exact bT2 ‹_›
|apply zl rfl rfl
 . conv => lhs; whnf
 . conv => lhs; whnf
 . first | exact bF1 ‹_› | exact bF2 ‹_›
|apply s_1
 conv => whnf; arg 1; arg 4; arg 3; whnf
 refine ⟨?_,?_⟩
|apply zAF rfl
 . conv => lhs; whnf
 . conv => lhs; whnf; arg 2; whnf
|apply zk rfl
 . conv => lhs; whnf
 . conv => lhs; whnf
 . first | fail
|apply zQ rfl
 . conv => lhs; whnf
 . conv => lhs; whnf
 . first | rfl | assumption
 . conv => lhs; whnf; arg 2; whnf
|apply zP rfl
 . conv => lhs; whnf
 . conv => lhs; whnf
 . first | rfl | assumption
 . conv => lhs; whnf
 . first | fail
|apply zBM rfl
 . conv => lhs; whnf
 . conv => lhs; whnf
 . first | rfl | assumption
|apply zm rfl
 . conv => lhs; whnf
 . conv => lhs; whnf
 . conv => lhs; whnf; arg 2; whnf
|apply zg rfl
 . conv => lhs; whnf
 . conv => lhs; whnf
 . conv => lhs; whnf
 . first | fail
|apply zq (by kernel_rfl) (by kernel_rfl)
|apply zAR
|apply zAb rfl rfl
 . conv => lhs; whnf
 . conv => lhs; whnf
 . first | exact bT1 ‹_› | exact bT2 ‹_›
|apply zAX rfl rfl
 . conv => lhs; whnf
 . conv => lhs; whnf
 . first | exact bF1 ‹_› | exact bF2 ‹_›
|apply zAQ rfl
 . conv => lhs; whnf
 . conv => lhs; whnf; arg 2; whnf
|apply zAU rfl
 . conv => lhs; whnf
 . conv => lhs; whnf
 . first | fail
|apply zz rfl
 . conv => lhs; whnf
 . conv => lhs; whnf
 . first | rfl | assumption
 . conv => lhs; whnf; arg 2; whnf
|apply zw rfl
 . conv => lhs; whnf
 . conv => lhs; whnf
 . first | rfl | assumption
 . conv => lhs; whnf
 . first | fail
|apply zAt rfl
 . conv => lhs; whnf
 . conv => lhs; whnf
 . first | rfl | assumption
|apply zAJ rfl
 . conv => lhs; whnf
 . conv => lhs; whnf
 . conv => lhs; whnf; arg 2; whnf
|apply zAD rfl
 . conv => lhs; whnf
 . conv => lhs; whnf
 . conv => lhs; whnf
 . first | fail
|exact zR
|exact zX
|exact all_nil
|show List.all _ _ = true; rfl
|show zAC _ _ = true; rfl
|exact ([] : List Nat)
|exact (1000000 : Nat)
|apply zS
 . conv => lhs; whnf; arg 1; arg 1; whnf
|apply zU
 . conv => lhs; whnf; arg 1; arg 1; whnf
|refine zd (by conv => lhs; whnf) ?_ ?_ <;> intro hb
|refine zv ?_
|refine zh ?_
|refine zJ ?_
|refine zK ?_
|refine zH ?_
|refine zE rfl ?_
|refine zM rfl ?_
|refine zL ?_
|refine zO ?_
|refine zC ?_
|refine zN ?_
|refine zAG ?_
|refine zB ?_
|refine ⟨_,by conv => lhs; whnf; arg 2; whnf,?_⟩; conv => rhs; whnf
|exact trivial
|intro hg)
         all_goals first
          | exact zu (by omega)
          | exact zx hi
          | exact zx hi2
          | exact za (j':=j - 1) (by omega) ⟨i + 1,by omega,zB0 hall e,Sub.live ⟨rfl,rfl,rfl,trivial⟩ trivial⟩
          | skip
   . have f1 : decide ((i : Int) < (l.length : Nat)) = false:=decide_eq_false (by omega)
     rw [zA1 hlen fun q hq => hall q (by omega)]
     repeat' (first
|apply zG
 . conv => lhs; whnf
 . assumption
|apply zF
 . conv => lhs; whnf
 . assumption
|refine ze ?_
|refine zY ?_
|refine zAP ?_
|refine zA ?_
|refine zI ?_
|refine zZ ?_
|refine zW ?_
|refine zi ?_
|apply aw_1
 conv => whnf
 refine ⟨?_,trivial⟩
|apply zn rfl rfl
 . conv => lhs; whnf
 . conv => lhs; whnf
 . first | exact bT1 ‹_› | exact bT2 ‹_›
|apply zl rfl rfl
 . conv => lhs; whnf
 . conv => lhs; whnf
 . first | exact bF1 ‹_› | exact bF2 ‹_›
|apply s_1
 conv => whnf; arg 1; arg 4; arg 3; whnf
 refine ⟨?_,?_⟩
|apply zAF rfl
 . conv => lhs; whnf
 . conv => lhs; whnf; arg 2; whnf
|apply zk rfl
 . conv => lhs; whnf
 . conv => lhs; whnf
 . first | fail
|apply zQ rfl
 . conv => lhs; whnf
 . conv => lhs; whnf
 . first | rfl | assumption
 . conv => lhs; whnf; arg 2; whnf
|apply zP rfl
 . conv => lhs; whnf
 . conv => lhs; whnf
 . first | rfl | assumption
 . conv => lhs; whnf
 . first | fail
|apply zBM rfl
 . conv => lhs; whnf
 . conv => lhs; whnf
 . first | rfl | assumption
|apply zm rfl
 . conv => lhs; whnf
 . conv => lhs; whnf
 . conv => lhs; whnf; arg 2; whnf
|apply zg rfl
 . conv => lhs; whnf
 . conv => lhs; whnf
 . conv => lhs; whnf
 . first | fail
|apply zq (by kernel_rfl) (by kernel_rfl)
|apply zAR
|apply zAb rfl rfl
 . conv => lhs; whnf
 . conv => lhs; whnf
 . first | exact bT1 ‹_› | exact bT2 ‹_›
|apply zAX rfl rfl
 . conv => lhs; whnf
 . conv => lhs; whnf
 . first | exact bF1 ‹_› | exact bF2 ‹_›
|apply zAQ rfl
 . conv => lhs; whnf
 . conv => lhs; whnf; arg 2; whnf
|apply zAU rfl
 . conv => lhs; whnf
 . conv => lhs; whnf
 . first | fail
|apply zz rfl
 . conv => lhs; whnf
 . conv => lhs; whnf
 . first | rfl | assumption
 . conv => lhs; whnf; arg 2; whnf
|apply zw rfl
 . conv => lhs; whnf
 . conv => lhs; whnf
 . first | rfl | assumption
 . conv => lhs; whnf
 . first | fail
|apply zAt rfl
 . conv => lhs; whnf
 . conv => lhs; whnf
 . first | rfl | assumption
|apply zAJ rfl
 . conv => lhs; whnf
 . conv => lhs; whnf
 . conv => lhs; whnf; arg 2; whnf
|apply zAD rfl
 . conv => lhs; whnf
 . conv => lhs; whnf
 . conv => lhs; whnf
 . first | fail
|exact zR
|exact zX
|exact all_nil
|show List.all _ _ = true; rfl
|show zAC _ _ = true; rfl
|exact ([] : List Nat)
|exact (1000000 : Nat)
|apply zS
 . conv => lhs; whnf; arg 1; arg 1; whnf
|apply zU
 . conv => lhs; whnf; arg 1; arg 1; whnf
|refine zd (by conv => lhs; whnf) ?_ ?_ <;> intro hb
|refine zv ?_
|refine zh ?_
|refine zJ ?_
|refine zK ?_
|refine zH ?_
|refine zE rfl ?_
|refine zM rfl ?_
|refine zL ?_
|refine zO ?_
|refine zC ?_
|refine zN ?_
|refine zAG ?_
|refine zB ?_
|refine ⟨_,by conv => lhs; whnf; arg 2; whnf,?_⟩; conv => rhs; whnf
|exact trivial
|intro hg)
 . have f0 : ((l.length : Int) != (m.length : Int)) = true:=by simp; omega
   rw [zBd f0]
   refine zV 95 Tryd.func37 rfl rfl rfl rfl ?_
   intro s w he
   repeat' (first
|apply zG
 . conv => lhs; whnf
 . assumption
|apply zF
 . conv => lhs; whnf
 . assumption
|refine ze ?_
|refine zY ?_
|refine zAP ?_
|refine zA ?_
|refine zI ?_
|refine zZ ?_
|refine zW ?_
|refine zi ?_
|apply aw_1
 conv => whnf
 refine ⟨?_,trivial⟩
|apply zn rfl rfl
 . conv => lhs; whnf
 . conv => lhs; whnf
 . first | exact bT1 ‹_› | exact bT2 ‹_›
|apply zl rfl rfl
 . conv => lhs; whnf
 . conv => lhs; whnf
 . first | exact bF1 ‹_› | exact bF2 ‹_›
|apply s_1
 conv => whnf; arg 1; arg 4; arg 3; whnf
 refine ⟨?_,?_⟩
|apply zAF rfl
 . conv => lhs; whnf
 . conv => lhs; whnf; arg 2; whnf
|apply zk rfl
 . conv => lhs; whnf
 . conv => lhs; whnf
 . first | fail
|apply zQ rfl
 . conv => lhs; whnf
 . conv => lhs; whnf
 . first | rfl | assumption
 . conv => lhs; whnf; arg 2; whnf
|apply zP rfl
 . conv => lhs; whnf
 . conv => lhs; whnf
 . first | rfl | assumption
 . conv => lhs; whnf
 . first | fail
|apply zBM rfl
 . conv => lhs; whnf
 . conv => lhs; whnf
 . first | rfl | assumption
|apply zm rfl
 . conv => lhs; whnf
 . conv => lhs; whnf
 . conv => lhs; whnf; arg 2; whnf
|apply zg rfl
 . conv => lhs; whnf
 . conv => lhs; whnf
 . conv => lhs; whnf
 . first | fail
|apply zq (by kernel_rfl) (by kernel_rfl)
|apply zAR
|apply zAb rfl rfl
 . conv => lhs; whnf
 . conv => lhs; whnf
 . first | exact bT1 ‹_› | exact bT2 ‹_›
|apply zAX rfl rfl
 . conv => lhs; whnf
 . conv => lhs; whnf
 . first | exact bF1 ‹_› | exact bF2 ‹_›
|apply zAQ rfl
 . conv => lhs; whnf
 . conv => lhs; whnf; arg 2; whnf
|apply zAU rfl
 . conv => lhs; whnf
 . conv => lhs; whnf
 . first | fail
|apply zz rfl
 . conv => lhs; whnf
 . conv => lhs; whnf
 . first | rfl | assumption
 . conv => lhs; whnf; arg 2; whnf
|apply zw rfl
 . conv => lhs; whnf
 . conv => lhs; whnf
 . first | rfl | assumption
 . conv => lhs; whnf
 . first | fail
|apply zAt rfl
 . conv => lhs; whnf
 . conv => lhs; whnf
 . first | rfl | assumption
|apply zAJ rfl
 . conv => lhs; whnf
 . conv => lhs; whnf
 . conv => lhs; whnf; arg 2; whnf
|apply zAD rfl
 . conv => lhs; whnf
 . conv => lhs; whnf
 . conv => lhs; whnf
 . first | fail
|exact zR
|exact zX
|exact all_nil
|show List.all _ _ = true; rfl
|show zAC _ _ = true; rfl
|exact ([] : List Nat)
|exact (1000000 : Nat)
|apply zS
 . conv => lhs; whnf; arg 1; arg 1; whnf
|apply zU
 . conv => lhs; whnf; arg 1; arg 1; whnf
|refine zd (by conv => lhs; whnf) ?_ ?_ <;> intro hb
|refine zv ?_
|refine zh ?_
|refine zJ ?_
|refine zK ?_
|refine zH ?_
|refine zE rfl ?_
|refine zM rfl ?_
|refine zL ?_
|refine zO ?_
|refine zC ?_
|refine zN ?_
|refine zAG ?_
|refine zB ?_
|refine ⟨_,by conv => lhs; whnf; arg 2; whnf,?_⟩; conv => rhs; whnf
|exact trivial
|intro hg)
noncomputable def HzI7 (l m : List D) (i : Nat) : Vst 63:=stS 63 [(0,.sl 76 l),(1,.sl 76 m),(5,.c (.int .i64 (i : Int)))] []
noncomputable def HzIX7 (l m : List D) (i : Nat) : Vst 63:=stS 63 [(0,.sl 76 l),(1,.sl 76 m),(5,.c (.int .i64 (i : Int))),(6,.bx 6 0),(7,.bx 7 0)] [(6,.box 76 (cellsV Tryd.prog 12 76 (gD l i))),(7,.box 76 (cellsV Tryd.prog 12 76 (gD m i)))]
theorem insZ_ac (l m : List D) (hl : bulkL l <= 100000000) (hm : bulkL m <= 100000000) : AC EN Tryd.prog 39 [.sl 76 l,.sl 76 m] (.c (.bool (eqL inEq7 l m))):=by
 have hll:=zAY l
 by_cases hlen : l.length = m.length
 . have f0 : ((l.length : Int) != (m.length : Int)) = false:=by simp [hlen]
   refine zV 63 Tryd.func39 rfl rfl rfl rfl ?_
   intro s w he
   repeat' (first
|apply zG
 . conv => lhs; whnf
 . assumption
|apply zF
 . conv => lhs; whnf
 . assumption
|refine ze ?_
|refine zY ?_
|refine zAP ?_
|refine zA ?_
|refine zI ?_
|refine zZ ?_
|refine zW ?_
|refine zi ?_
|apply aw_1
 conv => whnf
 refine ⟨?_,trivial⟩
|apply zn rfl rfl
 . conv => lhs; whnf
 . conv => lhs; whnf
 . first | exact bT1 ‹_› | exact bT2 ‹_›
|apply zl rfl rfl
 . conv => lhs; whnf
 . conv => lhs; whnf
 . first | exact bF1 ‹_› | exact bF2 ‹_›
|apply s_1
 conv => whnf; arg 1; arg 4; arg 3; whnf
 refine ⟨?_,?_⟩
|apply zAF rfl
 . conv => lhs; whnf
 . conv => lhs; whnf; arg 2; whnf
|apply zk rfl
 . conv => lhs; whnf
 . conv => lhs; whnf
 . first | fail
|apply zAV rfl rfl rfl rfl
 . conv => lhs; whnf; arg 1; whnf
 . rfl
|apply z8 rfl rfl rfl
 . conv => lhs; whnf
 . conv => lhs; whnf; arg 1; whnf
 . conv => lhs; whnf; arg 1; whnf
 . exact ⟨by kernel_rfl,by kernel_rfl⟩
 . rfl
|apply zQ rfl
 . conv => lhs; whnf
 . conv => lhs; whnf
 . first | rfl | assumption
 . conv => lhs; whnf; arg 2; whnf
|apply zP rfl
 . conv => lhs; whnf
 . conv => lhs; whnf
 . first | rfl | assumption
 . conv => lhs; whnf
 . first | fail
|apply zBM rfl
 . conv => lhs; whnf
 . conv => lhs; whnf
 . first | rfl | assumption
|apply zm rfl
 . conv => lhs; whnf
 . conv => lhs; whnf
 . conv => lhs; whnf; arg 2; whnf
|apply zg rfl
 . conv => lhs; whnf
 . conv => lhs; whnf
 . conv => lhs; whnf
 . first | fail
|apply zq (by kernel_rfl) (by kernel_rfl)
|apply zAR
|apply zAb rfl rfl
 . conv => lhs; whnf
 . conv => lhs; whnf
 . first | exact bT1 ‹_› | exact bT2 ‹_›
|apply zAX rfl rfl
 . conv => lhs; whnf
 . conv => lhs; whnf
 . first | exact bF1 ‹_› | exact bF2 ‹_›
|apply zAQ rfl
 . conv => lhs; whnf
 . conv => lhs; whnf; arg 2; whnf
|apply zAU rfl
 . conv => lhs; whnf
 . conv => lhs; whnf
 . first | fail
|apply zAl rfl rfl rfl
 . conv => lhs; whnf
 . rfl
 . rfl
 . conv => lhs; whnf; arg 1; whnf
 . conv => lhs; whnf; arg 1; whnf
 . exact ⟨by kernel_rfl,by kernel_rfl⟩
 . rfl
|apply zz rfl
 . conv => lhs; whnf
 . conv => lhs; whnf
 . first | rfl | assumption
 . conv => lhs; whnf; arg 2; whnf
|apply zw rfl
 . conv => lhs; whnf
 . conv => lhs; whnf
 . first | rfl | assumption
 . conv => lhs; whnf
 . first | fail
|apply zAt rfl
 . conv => lhs; whnf
 . conv => lhs; whnf
 . first | rfl | assumption
|apply zAJ rfl
 . conv => lhs; whnf
 . conv => lhs; whnf
 . conv => lhs; whnf; arg 2; whnf
|apply zAD rfl
 . conv => lhs; whnf
 . conv => lhs; whnf
 . conv => lhs; whnf
 . first | fail
|exact zR
|exact zX
|exact all_nil
|show List.all _ _ = true; rfl
|show zAC _ _ = true; rfl
|exact ([] : List Nat)
|exact (1000000 : Nat)
|apply zS
 . conv => lhs; whnf; arg 1; arg 1; whnf
|apply zU
 . conv => lhs; whnf; arg 1; arg 1; whnf
|refine zd (by conv => lhs; whnf) ?_ ?_ <;> intro hb
|refine zv ?_
|refine zh ?_
|refine zJ ?_
|refine zK ?_
|refine zH ?_
|refine zE rfl ?_
|refine zM rfl ?_
|refine zL ?_
|refine zO ?_
|refine zC ?_
|refine zN ?_
|refine zAG ?_
|refine zB ?_
|refine ⟨_,by conv => lhs; whnf; arg 2; whnf,?_⟩; conv => rhs; whnf
|exact trivial
|intro hg)
   refine z7 (fun j st => ∃ i,i + j = l.length /\ (∀ q,q < i -> inEq7 (gD l q) (gD m q) = true) /\ Sub (cx EN Tryd.prog s w he) st (HzI7 l m i)) l.length ⟨0,by omega,fun q hq => by omega,Sub.live ⟨rfl,rfl,rfl,trivial⟩ trivial⟩ ?_
   rintro j st ⟨i,hij,hall,hs2⟩
   refine zAA hs2 ?_
   clear hs2
   by_cases hi : i < l.length
   . have f1 : decide ((i : Int) < (l.length : Nat)) = true:=decide_eq_true (by omega)
     have hi2 : i < m.length:=by omega
     have bx:=zAZ hi hl
     have by_:=zAZ hi2 hm
     have h1:=zHs ((gD l i).f 1) ((gD m i).f 1) (by have:=zr (gD l i) 1; omega)
     have h3:=valR_ac ((gD l i).f 3) ((gD m i).f 3) (by have:=zr (gD l i) 3; omega) (by have:=zr (gD m i) 3; omega)
     have h4:=zD0 ((gD l i).f 4).l ((gD m i).f 4).l (by have:=zr (gD l i) 4; omega) (by have:=zr (gD m i) 4; omega)
     have kT:=zHU
     have kF:=zHV
     have fT:=zDc
     rcases chain5 (((gD l i).f 0).s.toList == ((gD m i).f 0).s.toList) (zDq ((gD l i).f 1) ((gD m i).f 1)) (((gD l i).f 2).b == ((gD m i).f 2).b) (zEu ((gD l i).f 3) ((gD m i).f 3)) (eqL dirEq ((gD l i).f 4).l ((gD m i).f 4).l) with e0 | ⟨e0,e1⟩ | ⟨e0,e1,e2⟩ | ⟨e0,e1,e2,e3⟩ | ⟨e0,e1,e2,e3,e4⟩ | ⟨e0,e1,e2,e3,e4⟩
     . obtain ⟨f0a,f0b,k0⟩:=b_f (t:=(!(((gD l i).f 0).s.toList == ((gD m i).f 0).s.toList))) e0 rfl
       have e : inEq7 (gD l i) (gD m i) = false:=by unfold inEq7; rw [show sEq ((gD l i).f 0) ((gD m i).f 0) = (((gD l i).f 0).s.toList == ((gD m i).f 0).s.toList) from rfl]; simp only [e0,Bool.true_and,Bool.false_and,Bool.and_false]
       rw [zAg hi e]
       repeat' (first
|apply zBH ([(3,[1000000]),(7,[1000000])]) ([(8,[6]),(9,[7]),(10,[6]),(11,[7])]) ([(8,6),(9,7)]) rfl (by kernel_rfl) (by kernel_rfl) (by kernel_rfl) (by intro p hp; simp only [List.mem_cons,List.not_mem_nil,or_false] at hp; rcases hp with rfl | rfl <;> (repeat' (first | exact fresh_S rfl | refine fresh_put ?_ rfl | refine fresh_res ?_ rfl rfl)))
|apply zEU
|apply zBn rfl rfl rfl rfl
 . conv => lhs; whnf; arg 1; whnf
 . rfl
 . rfl
 . kernel_rfl
|apply zET rfl
 . conv => lhs; whnf
 . conv => lhs; whnf; arg 2; whnf
 . kernel_rfl
|apply zBm rfl rfl rfl
 . conv => lhs; whnf
 . rfl
 . conv => lhs; whnf; arg 1; whnf
 . conv => lhs; whnf; arg 1; whnf
 . exact ⟨by kernel_rfl,by kernel_rfl⟩
 . rfl
 . kernel_rfl
|show inO _ _ = true; rfl
|apply s_wanted_pick_t rfl rfl rfl
 . conv => lhs; whnf
 . first | rfl | assumption
 . conv => lhs; whnf
 . first | exact bT1 ‹_› | exact bT2 ‹_› | rfl
|apply zAK rfl rfl rfl
 . conv => lhs; whnf
 . first | rfl | assumption
 . conv => lhs; whnf
 . first | exact bT1 ‹_› | exact bT2 ‹_› | rfl
|apply s_wanted_pick_f rfl rfl rfl
 . conv => lhs; whnf
 . first | rfl | assumption
 . conv => lhs; whnf
 . first | exact bF1 ‹_› | exact bF2 ‹_› | rfl
|apply zAL rfl rfl rfl
 . conv => lhs; whnf
 . first | rfl | assumption
 . conv => lhs; whnf
 . first | exact bF1 ‹_› | exact bF2 ‹_› | rfl
|apply zBI 7 (HzIX7 l m i) rfl
|apply zG
 . conv => lhs; whnf
 . assumption
|apply zF
 . conv => lhs; whnf
 . assumption
|exact (k0 ‹_›).elim
|exact (kT ‹_›).elim
|exact (kF ‹_›).elim
|refine ze ?_
|refine zY ?_
|refine zAP ?_
|refine zA ?_
|refine zI ?_
|refine zZ ?_
|refine zW ?_
|refine zi ?_
|apply aw_1
 conv => whnf
 refine ⟨?_,trivial⟩
|apply zn rfl rfl
 . conv => lhs; whnf
 . conv => lhs; whnf
 . first | exact bT1 ‹_› | exact bT2 ‹_›
|apply zl rfl rfl
 . conv => lhs; whnf
 . conv => lhs; whnf
 . first | exact bF1 ‹_› | exact bF2 ‹_›
|apply s_1
 conv => whnf; arg 1; arg 4; arg 3; whnf
 refine ⟨?_,?_⟩
|apply zAF rfl
 . conv => lhs; whnf
 . conv => lhs; whnf; arg 2; whnf
|apply zk rfl
 . conv => lhs; whnf
 . conv => lhs; whnf
 . first | fail
|apply zAV rfl rfl rfl rfl
 . conv => lhs; whnf; arg 1; whnf
 . rfl
|apply z8 rfl rfl rfl
 . conv => lhs; whnf
 . conv => lhs; whnf; arg 1; whnf
 . conv => lhs; whnf; arg 1; whnf
 . exact ⟨by kernel_rfl,by kernel_rfl⟩
 . rfl
|apply zQ rfl
 . conv => lhs; whnf
 . conv => lhs; whnf
 . first | rfl | assumption
 . conv => lhs; whnf; arg 2; whnf
|apply zP rfl
 . conv => lhs; whnf
 . conv => lhs; whnf
 . first | rfl | assumption
 . conv => lhs; whnf
 . first | fail
|apply zAB rfl
 . conv => lhs; whnf
 . conv => lhs; whnf
 . first | rfl | assumption
|apply zAm rfl
 . conv => lhs; whnf
 . rfl
 . rfl
|apply zb rfl
 . conv => lhs; whnf
 . conv => lhs; whnf
 . conv => lhs; whnf; arg 2; whnf
|apply zt rfl
 . conv => lhs; whnf
 . conv => lhs; whnf
 . conv => lhs; whnf
 . first | fail
|apply zm rfl
 . conv => lhs; whnf
 . conv => lhs; whnf
 . conv => lhs; whnf; arg 2; whnf
|apply zg rfl
 . conv => lhs; whnf
 . conv => lhs; whnf
 . conv => lhs; whnf
 . first | fail
|apply zq (by kernel_rfl) (by kernel_rfl)
|apply zAR
|apply zAb rfl rfl
 . conv => lhs; whnf
 . conv => lhs; whnf
 . first | exact bT1 ‹_› | exact bT2 ‹_›
|apply zAX rfl rfl
 . conv => lhs; whnf
 . conv => lhs; whnf
 . first | exact bF1 ‹_› | exact bF2 ‹_›
|apply zAQ rfl
 . conv => lhs; whnf
 . conv => lhs; whnf; arg 2; whnf
|apply zAU rfl
 . conv => lhs; whnf
 . conv => lhs; whnf
 . first | fail
|apply zAl rfl rfl rfl
 . conv => lhs; whnf
 . rfl
 . rfl
 . conv => lhs; whnf; arg 1; whnf
 . conv => lhs; whnf; arg 1; whnf
 . exact ⟨by kernel_rfl,by kernel_rfl⟩
 . rfl
|apply zz rfl
 . conv => lhs; whnf
 . conv => lhs; whnf
 . first | rfl | assumption
 . conv => lhs; whnf; arg 2; whnf
|apply zw rfl
 . conv => lhs; whnf
 . conv => lhs; whnf
 . first | rfl | assumption
 . conv => lhs; whnf
 . first | fail
|apply zAt rfl
 . conv => lhs; whnf
 . conv => lhs; whnf
 . first | rfl | assumption
|apply zAJ rfl
 . conv => lhs; whnf
 . conv => lhs; whnf
 . conv => lhs; whnf; arg 2; whnf
|apply zAD rfl
 . conv => lhs; whnf
 . conv => lhs; whnf
 . conv => lhs; whnf
 . first | fail
|exact zR
|exact zX
|exact all_nil
|show List.all _ _ = true; rfl
|show zAC _ _ = true; rfl
|exact ([] : List Nat)
|exact (1000000 : Nat)
|apply zS
 . conv => lhs; whnf; arg 1; arg 1; whnf
|apply zU
 . conv => lhs; whnf; arg 1; arg 1; whnf
|refine zd (by conv => lhs; whnf) ?_ ?_ <;> intro hb
|refine zv ?_
|refine zh ?_
|refine zJ ?_
|refine zK ?_
|refine zH ?_
|refine zE rfl ?_
|refine zM rfl ?_
|refine zL ?_
|refine zO ?_
|refine zC ?_
|refine zN ?_
|refine zAG ?_
|refine zB ?_
|refine ⟨_,by conv => lhs; whnf; arg 2; whnf,?_⟩; conv => rhs; whnf
|exact trivial
|intro hg)
       all_goals first
        | exact zu (by omega)
        | exact zx hi
        | exact zx hi2
        | exact Sub.live ⟨rfl,rfl,rfl,rfl,rfl,trivial⟩ ⟨rfl,rfl,trivial⟩
        | rfl
        | exact (show Tryd.prog.underlying _ = some .bool by kernel_rfl)
        | skip
     . obtain ⟨f0a,f0b,k0⟩:=b_t (t:=(!(((gD l i).f 0).s.toList == ((gD m i).f 0).s.toList))) e0 rfl
       rw [e1] at h1
       have e : inEq7 (gD l i) (gD m i) = false:=by unfold inEq7; rw [show sEq ((gD l i).f 0) ((gD m i).f 0) = (((gD l i).f 0).s.toList == ((gD m i).f 0).s.toList) from rfl]; simp only [e0,e1,Bool.true_and,Bool.false_and,Bool.and_false]
       rw [zAg hi e]
       repeat' (first
|apply zBH ([(3,[1000000]),(7,[1000000])]) ([(8,[6]),(9,[7]),(10,[6]),(11,[7])]) ([(8,6),(9,7)]) rfl (by kernel_rfl) (by kernel_rfl) (by kernel_rfl) (by intro p hp; simp only [List.mem_cons,List.not_mem_nil,or_false] at hp; rcases hp with rfl | rfl <;> (repeat' (first | exact fresh_S rfl | refine fresh_put ?_ rfl | refine fresh_res ?_ rfl rfl)))
|apply zEU
|apply zBn rfl rfl rfl rfl
 . conv => lhs; whnf; arg 1; whnf
 . rfl
 . rfl
 . kernel_rfl
|apply zET rfl
 . conv => lhs; whnf
 . conv => lhs; whnf; arg 2; whnf
 . kernel_rfl
|apply zBm rfl rfl rfl
 . conv => lhs; whnf
 . rfl
 . conv => lhs; whnf; arg 1; whnf
 . conv => lhs; whnf; arg 1; whnf
 . exact ⟨by kernel_rfl,by kernel_rfl⟩
 . rfl
 . kernel_rfl
|show inO _ _ = true; rfl
|apply s_wanted_pick_t rfl rfl rfl
 . conv => lhs; whnf
 . first | rfl | assumption
 . conv => lhs; whnf
 . first | exact bT1 ‹_› | exact bT2 ‹_› | rfl
|apply zAK rfl rfl rfl
 . conv => lhs; whnf
 . first | rfl | assumption
 . conv => lhs; whnf
 . first | exact bT1 ‹_› | exact bT2 ‹_› | rfl
|apply s_wanted_pick_f rfl rfl rfl
 . conv => lhs; whnf
 . first | rfl | assumption
 . conv => lhs; whnf
 . first | exact bF1 ‹_› | exact bF2 ‹_› | rfl
|apply zAL rfl rfl rfl
 . conv => lhs; whnf
 . first | rfl | assumption
 . conv => lhs; whnf
 . first | exact bF1 ‹_› | exact bF2 ‹_› | rfl
|apply zBI 7 (HzIX7 l m i) rfl
|apply zG
 . conv => lhs; whnf
 . assumption
|apply zF
 . conv => lhs; whnf
 . assumption
|exact (k0 ‹_›).elim
|exact (kT ‹_›).elim
|exact (kF ‹_›).elim
|refine ze ?_
|refine zY ?_
|refine zAP ?_
|refine zA ?_
|refine zI ?_
|refine zZ ?_
|refine zW ?_
|refine zi ?_
|apply aw_1
 conv => whnf
 refine ⟨?_,trivial⟩
|apply zn rfl rfl
 . conv => lhs; whnf
 . conv => lhs; whnf
 . first | exact bT1 ‹_› | exact bT2 ‹_›
|apply zl rfl rfl
 . conv => lhs; whnf
 . conv => lhs; whnf
 . first | exact bF1 ‹_› | exact bF2 ‹_›
|apply s_1
 conv => whnf; arg 1; arg 4; arg 3; whnf
 refine ⟨?_,?_⟩
|apply zAF rfl
 . conv => lhs; whnf
 . conv => lhs; whnf; arg 2; whnf
|apply zk rfl
 . conv => lhs; whnf
 . conv => lhs; whnf
 . first | exact h1
|apply zAV rfl rfl rfl rfl
 . conv => lhs; whnf; arg 1; whnf
 . rfl
|apply z8 rfl rfl rfl
 . conv => lhs; whnf
 . conv => lhs; whnf; arg 1; whnf
 . conv => lhs; whnf; arg 1; whnf
 . exact ⟨by kernel_rfl,by kernel_rfl⟩
 . rfl
|apply zQ rfl
 . conv => lhs; whnf
 . conv => lhs; whnf
 . first | rfl | assumption
 . conv => lhs; whnf; arg 2; whnf
|apply zP rfl
 . conv => lhs; whnf
 . conv => lhs; whnf
 . first | rfl | assumption
 . conv => lhs; whnf
 . first | exact h1
|apply zAB rfl
 . conv => lhs; whnf
 . conv => lhs; whnf
 . first | rfl | assumption
|apply zAm rfl
 . conv => lhs; whnf
 . rfl
 . rfl
|apply zb rfl
 . conv => lhs; whnf
 . conv => lhs; whnf
 . conv => lhs; whnf; arg 2; whnf
|apply zt rfl
 . conv => lhs; whnf
 . conv => lhs; whnf
 . conv => lhs; whnf
 . first | exact h1
|apply zm rfl
 . conv => lhs; whnf
 . conv => lhs; whnf
 . conv => lhs; whnf; arg 2; whnf
|apply zg rfl
 . conv => lhs; whnf
 . conv => lhs; whnf
 . conv => lhs; whnf
 . first | exact h1
|apply zq (by kernel_rfl) (by kernel_rfl)
|apply zAR
|apply zAb rfl rfl
 . conv => lhs; whnf
 . conv => lhs; whnf
 . first | exact bT1 ‹_› | exact bT2 ‹_›
|apply zAX rfl rfl
 . conv => lhs; whnf
 . conv => lhs; whnf
 . first | exact bF1 ‹_› | exact bF2 ‹_›
|apply zAQ rfl
 . conv => lhs; whnf
 . conv => lhs; whnf; arg 2; whnf
|apply zAU rfl
 . conv => lhs; whnf
 . conv => lhs; whnf
 . first | exact h1
|apply zAl rfl rfl rfl
 . conv => lhs; whnf
 . rfl
 . rfl
 . conv => lhs; whnf; arg 1; whnf
 . conv => lhs; whnf; arg 1; whnf
 . exact ⟨by kernel_rfl,by kernel_rfl⟩
 . rfl
|apply zz rfl
 . conv => lhs; whnf
 . conv => lhs; whnf
 . first | rfl | assumption
 . conv => lhs; whnf; arg 2; whnf
|apply zw rfl
 . conv => lhs; whnf
 . conv => lhs; whnf
 . first | rfl | assumption
 . conv => lhs; whnf
 . first | exact h1
|apply zAt rfl
 . conv => lhs; whnf
 . conv => lhs; whnf
 . first | rfl | assumption
|apply zAJ rfl
 . conv => lhs; whnf
 . conv => lhs; whnf
 . conv => lhs; whnf; arg 2; whnf
|apply zAD rfl
 . conv => lhs; whnf
 . conv => lhs; whnf
 . conv => lhs; whnf
 . first | exact h1
|exact zR
|exact zX
|exact all_nil
|show List.all _ _ = true; rfl
|show zAC _ _ = true; rfl
|exact ([] : List Nat)
|exact (1000000 : Nat)
|apply zS
 . conv => lhs; whnf; arg 1; arg 1; whnf
|apply zU
 . conv => lhs; whnf; arg 1; arg 1; whnf
|refine zd (by conv => lhs; whnf) ?_ ?_ <;> intro hb
|refine zv ?_
|refine zh ?_
|refine zJ ?_
|refine zK ?_
|refine zH ?_
|refine zE rfl ?_
|refine zM rfl ?_
|refine zL ?_
|refine zO ?_
|refine zC ?_
|refine zN ?_
|refine zAG ?_
|refine zB ?_
|refine ⟨_,by conv => lhs; whnf; arg 2; whnf,?_⟩; conv => rhs; whnf
|exact trivial
|intro hg)
       all_goals first
        | exact zu (by omega)
        | exact zx hi
        | exact zx hi2
        | exact Sub.live ⟨rfl,rfl,rfl,rfl,rfl,trivial⟩ ⟨rfl,rfl,trivial⟩
        | rfl
        | exact (show Tryd.prog.underlying _ = some .bool by kernel_rfl)
        | skip
     . obtain ⟨f0a,f0b,k0⟩:=b_t (t:=(!(((gD l i).f 0).s.toList == ((gD m i).f 0).s.toList))) e0 rfl
       rw [e1] at h1
       obtain ⟨f2a,f2b,k2⟩:=b_f (t:=(((gD l i).f 2).b != ((gD m i).f 2).b)) e2 rfl
       have e : inEq7 (gD l i) (gD m i) = false:=by unfold inEq7; rw [show sEq ((gD l i).f 0) ((gD m i).f 0) = (((gD l i).f 0).s.toList == ((gD m i).f 0).s.toList) from rfl]; simp only [e0,e1,e2,Bool.true_and,Bool.false_and,Bool.and_false]
       rw [zAg hi e]
       repeat' (first
|apply zBH ([(3,[1000000]),(7,[1000000])]) ([(8,[6]),(9,[7]),(10,[6]),(11,[7])]) ([(8,6),(9,7)]) rfl (by kernel_rfl) (by kernel_rfl) (by kernel_rfl) (by intro p hp; simp only [List.mem_cons,List.not_mem_nil,or_false] at hp; rcases hp with rfl | rfl <;> (repeat' (first | exact fresh_S rfl | refine fresh_put ?_ rfl | refine fresh_res ?_ rfl rfl)))
|apply zEU
|apply zBn rfl rfl rfl rfl
 . conv => lhs; whnf; arg 1; whnf
 . rfl
 . rfl
 . kernel_rfl
|apply zET rfl
 . conv => lhs; whnf
 . conv => lhs; whnf; arg 2; whnf
 . kernel_rfl
|apply zBm rfl rfl rfl
 . conv => lhs; whnf
 . rfl
 . conv => lhs; whnf; arg 1; whnf
 . conv => lhs; whnf; arg 1; whnf
 . exact ⟨by kernel_rfl,by kernel_rfl⟩
 . rfl
 . kernel_rfl
|show inO _ _ = true; rfl
|apply s_wanted_pick_t rfl rfl rfl
 . conv => lhs; whnf
 . first | rfl | assumption
 . conv => lhs; whnf
 . first | exact bT1 ‹_› | exact bT2 ‹_› | rfl
|apply zAK rfl rfl rfl
 . conv => lhs; whnf
 . first | rfl | assumption
 . conv => lhs; whnf
 . first | exact bT1 ‹_› | exact bT2 ‹_› | rfl
|apply s_wanted_pick_f rfl rfl rfl
 . conv => lhs; whnf
 . first | rfl | assumption
 . conv => lhs; whnf
 . first | exact bF1 ‹_› | exact bF2 ‹_› | rfl
|apply zAL rfl rfl rfl
 . conv => lhs; whnf
 . first | rfl | assumption
 . conv => lhs; whnf
 . first | exact bF1 ‹_› | exact bF2 ‹_› | rfl
|apply zBI 7 (HzIX7 l m i) rfl
|apply zG
 . conv => lhs; whnf
 . assumption
|apply zF
 . conv => lhs; whnf
 . assumption
|exact (k0 ‹_›).elim
|exact (k2 ‹_›).elim
|exact (kT ‹_›).elim
|exact (kF ‹_›).elim
|refine ze ?_
|refine zY ?_
|refine zAP ?_
|refine zA ?_
|refine zI ?_
|refine zZ ?_
|refine zW ?_
|refine zi ?_
|apply aw_1
 conv => whnf
 refine ⟨?_,trivial⟩
|apply zn rfl rfl
 . conv => lhs; whnf
 . conv => lhs; whnf
 . first | exact bT1 ‹_› | exact bT2 ‹_›
|apply zl rfl rfl
 . conv => lhs; whnf
 . conv => lhs; whnf
 . first | exact bF1 ‹_› | exact bF2 ‹_›
|apply s_1
 conv => whnf; arg 1; arg 4; arg 3; whnf
 refine ⟨?_,?_⟩
|apply zAF rfl
 . conv => lhs; whnf
 . conv => lhs; whnf; arg 2; whnf
|apply zk rfl
 . conv => lhs; whnf
 . conv => lhs; whnf
 . first | exact h1
|apply zAV rfl rfl rfl rfl
 . conv => lhs; whnf; arg 1; whnf
 . rfl
|apply z8 rfl rfl rfl
 . conv => lhs; whnf
 . conv => lhs; whnf; arg 1; whnf
 . conv => lhs; whnf; arg 1; whnf
 . exact ⟨by kernel_rfl,by kernel_rfl⟩
 . rfl
|apply zQ rfl
 . conv => lhs; whnf
 . conv => lhs; whnf
 . first | rfl | assumption
 . conv => lhs; whnf; arg 2; whnf
|apply zP rfl
 . conv => lhs; whnf
 . conv => lhs; whnf
 . first | rfl | assumption
 . conv => lhs; whnf
 . first | exact h1
|apply zAB rfl
 . conv => lhs; whnf
 . conv => lhs; whnf
 . first | rfl | assumption
|apply zAm rfl
 . conv => lhs; whnf
 . rfl
 . rfl
|apply zb rfl
 . conv => lhs; whnf
 . conv => lhs; whnf
 . conv => lhs; whnf; arg 2; whnf
|apply zt rfl
 . conv => lhs; whnf
 . conv => lhs; whnf
 . conv => lhs; whnf
 . first | exact h1
|apply zm rfl
 . conv => lhs; whnf
 . conv => lhs; whnf
 . conv => lhs; whnf; arg 2; whnf
|apply zg rfl
 . conv => lhs; whnf
 . conv => lhs; whnf
 . conv => lhs; whnf
 . first | exact h1
|apply zq (by kernel_rfl) (by kernel_rfl)
|apply zAR
|apply zAb rfl rfl
 . conv => lhs; whnf
 . conv => lhs; whnf
 . first | exact bT1 ‹_› | exact bT2 ‹_›
|apply zAX rfl rfl
 . conv => lhs; whnf
 . conv => lhs; whnf
 . first | exact bF1 ‹_› | exact bF2 ‹_›
|apply zAQ rfl
 . conv => lhs; whnf
 . conv => lhs; whnf; arg 2; whnf
|apply zAU rfl
 . conv => lhs; whnf
 . conv => lhs; whnf
 . first | exact h1
|apply zAl rfl rfl rfl
 . conv => lhs; whnf
 . rfl
 . rfl
 . conv => lhs; whnf; arg 1; whnf
 . conv => lhs; whnf; arg 1; whnf
 . exact ⟨by kernel_rfl,by kernel_rfl⟩
 . rfl
|apply zz rfl
 . conv => lhs; whnf
 . conv => lhs; whnf
 . first | rfl | assumption
 . conv => lhs; whnf; arg 2; whnf
|apply zw rfl
 . conv => lhs; whnf
 . conv => lhs; whnf
 . first | rfl | assumption
 . conv => lhs; whnf
 . first | exact h1
|apply zAt rfl
 . conv => lhs; whnf
 . conv => lhs; whnf
 . first | rfl | assumption
|apply zAJ rfl
 . conv => lhs; whnf
 . conv => lhs; whnf
 . conv => lhs; whnf; arg 2; whnf
|apply zAD rfl
 . conv => lhs; whnf
 . conv => lhs; whnf
 . conv => lhs; whnf
 . first | exact h1
|exact zR
|exact zX
|exact all_nil
|show List.all _ _ = true; rfl
|show zAC _ _ = true; rfl
|exact ([] : List Nat)
|exact (1000000 : Nat)
|apply zS
 . conv => lhs; whnf; arg 1; arg 1; whnf
|apply zU
 . conv => lhs; whnf; arg 1; arg 1; whnf
|refine zd (by conv => lhs; whnf) ?_ ?_ <;> intro hb
|refine zv ?_
|refine zh ?_
|refine zJ ?_
|refine zK ?_
|refine zH ?_
|refine zE rfl ?_
|refine zM rfl ?_
|refine zL ?_
|refine zO ?_
|refine zC ?_
|refine zN ?_
|refine zAG ?_
|refine zB ?_
|refine ⟨_,by conv => lhs; whnf; arg 2; whnf,?_⟩; conv => rhs; whnf
|exact trivial
|intro hg)
       all_goals first
        | exact zu (by omega)
        | exact zx hi
        | exact zx hi2
        | exact Sub.live ⟨rfl,rfl,rfl,rfl,rfl,trivial⟩ ⟨rfl,rfl,trivial⟩
        | rfl
        | exact (show Tryd.prog.underlying _ = some .bool by kernel_rfl)
        | skip
     . obtain ⟨f0a,f0b,k0⟩:=b_t (t:=(!(((gD l i).f 0).s.toList == ((gD m i).f 0).s.toList))) e0 rfl
       rw [e1] at h1
       obtain ⟨f2a,f2b,k2⟩:=b_t (t:=(((gD l i).f 2).b != ((gD m i).f 2).b)) e2 rfl
       rw [e3] at h3
       have e : inEq7 (gD l i) (gD m i) = false:=by unfold inEq7; rw [show sEq ((gD l i).f 0) ((gD m i).f 0) = (((gD l i).f 0).s.toList == ((gD m i).f 0).s.toList) from rfl]; simp only [e0,e1,e2,e3,Bool.true_and,Bool.false_and,Bool.and_false]
       rw [zAg hi e]
       repeat' (first
|apply zBH ([(3,[1000000]),(7,[1000000])]) ([(8,[6]),(9,[7]),(10,[6]),(11,[7])]) ([(8,6),(9,7)]) rfl (by kernel_rfl) (by kernel_rfl) (by kernel_rfl) (by intro p hp; simp only [List.mem_cons,List.not_mem_nil,or_false] at hp; rcases hp with rfl | rfl <;> (repeat' (first | exact fresh_S rfl | refine fresh_put ?_ rfl | refine fresh_res ?_ rfl rfl)))
|apply zEU
|apply zBn rfl rfl rfl rfl
 . conv => lhs; whnf; arg 1; whnf
 . rfl
 . rfl
 . kernel_rfl
|apply zET rfl
 . conv => lhs; whnf
 . conv => lhs; whnf; arg 2; whnf
 . kernel_rfl
|apply zBm rfl rfl rfl
 . conv => lhs; whnf
 . rfl
 . conv => lhs; whnf; arg 1; whnf
 . conv => lhs; whnf; arg 1; whnf
 . exact ⟨by kernel_rfl,by kernel_rfl⟩
 . rfl
 . kernel_rfl
|show inO _ _ = true; rfl
|apply s_wanted_pick_t rfl rfl rfl
 . conv => lhs; whnf
 . first | rfl | assumption
 . conv => lhs; whnf
 . first | exact bT1 ‹_› | exact bT2 ‹_› | rfl
|apply zAK rfl rfl rfl
 . conv => lhs; whnf
 . first | rfl | assumption
 . conv => lhs; whnf
 . first | exact bT1 ‹_› | exact bT2 ‹_› | rfl
|apply s_wanted_pick_f rfl rfl rfl
 . conv => lhs; whnf
 . first | rfl | assumption
 . conv => lhs; whnf
 . first | exact bF1 ‹_› | exact bF2 ‹_› | rfl
|apply zAL rfl rfl rfl
 . conv => lhs; whnf
 . first | rfl | assumption
 . conv => lhs; whnf
 . first | exact bF1 ‹_› | exact bF2 ‹_› | rfl
|apply zBI 7 (HzIX7 l m i) rfl
|apply zG
 . conv => lhs; whnf
 . assumption
|apply zF
 . conv => lhs; whnf
 . assumption
|exact (k0 ‹_›).elim
|exact (k2 ‹_›).elim
|exact (kT ‹_›).elim
|exact (kF ‹_›).elim
|refine ze ?_
|refine zY ?_
|refine zAP ?_
|refine zA ?_
|refine zI ?_
|refine zZ ?_
|refine zW ?_
|refine zi ?_
|apply aw_1
 conv => whnf
 refine ⟨?_,trivial⟩
|apply zn rfl rfl
 . conv => lhs; whnf
 . conv => lhs; whnf
 . first | exact bT1 ‹_› | exact bT2 ‹_›
|apply zl rfl rfl
 . conv => lhs; whnf
 . conv => lhs; whnf
 . first | exact bF1 ‹_› | exact bF2 ‹_›
|apply s_1
 conv => whnf; arg 1; arg 4; arg 3; whnf
 refine ⟨?_,?_⟩
|apply zAF rfl
 . conv => lhs; whnf
 . conv => lhs; whnf; arg 2; whnf
|apply zk rfl
 . conv => lhs; whnf
 . conv => lhs; whnf
 . first | exact h1 | exact h3
|apply zAV rfl rfl rfl rfl
 . conv => lhs; whnf; arg 1; whnf
 . rfl
|apply z8 rfl rfl rfl
 . conv => lhs; whnf
 . conv => lhs; whnf; arg 1; whnf
 . conv => lhs; whnf; arg 1; whnf
 . exact ⟨by kernel_rfl,by kernel_rfl⟩
 . rfl
|apply zQ rfl
 . conv => lhs; whnf
 . conv => lhs; whnf
 . first | rfl | assumption
 . conv => lhs; whnf; arg 2; whnf
|apply zP rfl
 . conv => lhs; whnf
 . conv => lhs; whnf
 . first | rfl | assumption
 . conv => lhs; whnf
 . first | exact h1 | exact h3
|apply zAB rfl
 . conv => lhs; whnf
 . conv => lhs; whnf
 . first | rfl | assumption
|apply zAm rfl
 . conv => lhs; whnf
 . rfl
 . rfl
|apply zb rfl
 . conv => lhs; whnf
 . conv => lhs; whnf
 . conv => lhs; whnf; arg 2; whnf
|apply zt rfl
 . conv => lhs; whnf
 . conv => lhs; whnf
 . conv => lhs; whnf
 . first | exact h1 | exact h3
|apply zm rfl
 . conv => lhs; whnf
 . conv => lhs; whnf
 . conv => lhs; whnf; arg 2; whnf
|apply zg rfl
 . conv => lhs; whnf
 . conv => lhs; whnf
 . conv => lhs; whnf
 . first | exact h1 | exact h3
|apply zq (by kernel_rfl) (by kernel_rfl)
|apply zAR
|apply zAb rfl rfl
 . conv => lhs; whnf
 . conv => lhs; whnf
 . first | exact bT1 ‹_› | exact bT2 ‹_›
|apply zAX rfl rfl
 . conv => lhs; whnf
 . conv => lhs; whnf
 . first | exact bF1 ‹_› | exact bF2 ‹_›
|apply zAQ rfl
 . conv => lhs; whnf
 . conv => lhs; whnf; arg 2; whnf
|apply zAU rfl
 . conv => lhs; whnf
 . conv => lhs; whnf
 . first | exact h1 | exact h3
|apply zAl rfl rfl rfl
 . conv => lhs; whnf
 . rfl
 . rfl
 . conv => lhs; whnf; arg 1; whnf
 . conv => lhs; whnf; arg 1; whnf
 . exact ⟨by kernel_rfl,by kernel_rfl⟩
 . rfl
|apply zz rfl
 . conv => lhs; whnf
 . conv => lhs; whnf
 . first | rfl | assumption
 . conv => lhs; whnf; arg 2; whnf
|apply zw rfl
 . conv => lhs; whnf
 . conv => lhs; whnf
 . first | rfl | assumption
 . conv => lhs; whnf
 . first | exact h1 | exact h3
|apply zAt rfl
 . conv => lhs; whnf
 . conv => lhs; whnf
 . first | rfl | assumption
|apply zAJ rfl
 . conv => lhs; whnf
 . conv => lhs; whnf
 . conv => lhs; whnf; arg 2; whnf
|apply zAD rfl
 . conv => lhs; whnf
 . conv => lhs; whnf
 . conv => lhs; whnf
 . first | exact h1 | exact h3
|exact zR
|exact zX
|exact all_nil
|show List.all _ _ = true; rfl
|show zAC _ _ = true; rfl
|exact ([] : List Nat)
|exact (1000000 : Nat)
|apply zS
 . conv => lhs; whnf; arg 1; arg 1; whnf
|apply zU
 . conv => lhs; whnf; arg 1; arg 1; whnf
|refine zd (by conv => lhs; whnf) ?_ ?_ <;> intro hb
|refine zv ?_
|refine zh ?_
|refine zJ ?_
|refine zK ?_
|refine zH ?_
|refine zE rfl ?_
|refine zM rfl ?_
|refine zL ?_
|refine zO ?_
|refine zC ?_
|refine zN ?_
|refine zAG ?_
|refine zB ?_
|refine ⟨_,by conv => lhs; whnf; arg 2; whnf,?_⟩; conv => rhs; whnf
|exact trivial
|intro hg)
       all_goals first
        | exact zu (by omega)
        | exact zx hi
        | exact zx hi2
        | exact Sub.live ⟨rfl,rfl,rfl,rfl,rfl,trivial⟩ ⟨rfl,rfl,trivial⟩
        | rfl
        | exact (show Tryd.prog.underlying _ = some .bool by kernel_rfl)
        | skip
     . obtain ⟨f0a,f0b,k0⟩:=b_t (t:=(!(((gD l i).f 0).s.toList == ((gD m i).f 0).s.toList))) e0 rfl
       rw [e1] at h1
       obtain ⟨f2a,f2b,k2⟩:=b_t (t:=(((gD l i).f 2).b != ((gD m i).f 2).b)) e2 rfl
       rw [e3] at h3
       rw [e4] at h4
       have e : inEq7 (gD l i) (gD m i) = false:=by unfold inEq7; rw [show sEq ((gD l i).f 0) ((gD m i).f 0) = (((gD l i).f 0).s.toList == ((gD m i).f 0).s.toList) from rfl]; simp only [e0,e1,e2,e3,e4,Bool.true_and,Bool.false_and,Bool.and_false]
       rw [zAg hi e]
       repeat' (first
|apply zBH ([(3,[1000000]),(7,[1000000])]) ([(8,[6]),(9,[7]),(10,[6]),(11,[7])]) ([(8,6),(9,7)]) rfl (by kernel_rfl) (by kernel_rfl) (by kernel_rfl) (by intro p hp; simp only [List.mem_cons,List.not_mem_nil,or_false] at hp; rcases hp with rfl | rfl <;> (repeat' (first | exact fresh_S rfl | refine fresh_put ?_ rfl | refine fresh_res ?_ rfl rfl)))
|apply zEU
|apply zBn rfl rfl rfl rfl
 . conv => lhs; whnf; arg 1; whnf
 . rfl
 . rfl
 . kernel_rfl
|apply zET rfl
 . conv => lhs; whnf
 . conv => lhs; whnf; arg 2; whnf
 . kernel_rfl
|apply zBm rfl rfl rfl
 . conv => lhs; whnf
 . rfl
 . conv => lhs; whnf; arg 1; whnf
 . conv => lhs; whnf; arg 1; whnf
 . exact ⟨by kernel_rfl,by kernel_rfl⟩
 . rfl
 . kernel_rfl
|show inO _ _ = true; rfl
|apply s_wanted_pick_t rfl rfl rfl
 . conv => lhs; whnf
 . first | rfl | assumption
 . conv => lhs; whnf
 . first | exact bT1 ‹_› | exact bT2 ‹_› | rfl
|apply zAK rfl rfl rfl
 . conv => lhs; whnf
 . first | rfl | assumption
 . conv => lhs; whnf
 . first | exact bT1 ‹_› | exact bT2 ‹_› | rfl
|apply s_wanted_pick_f rfl rfl rfl
 . conv => lhs; whnf
 . first | rfl | assumption
 . conv => lhs; whnf
 . first | exact bF1 ‹_› | exact bF2 ‹_› | rfl
|apply zAL rfl rfl rfl
 . conv => lhs; whnf
 . first | rfl | assumption
 . conv => lhs; whnf
 . first | exact bF1 ‹_› | exact bF2 ‹_› | rfl
|apply zBI 7 (HzIX7 l m i) rfl
|apply zG
 . conv => lhs; whnf
 . assumption
|apply zF
 . conv => lhs; whnf
 . assumption
|exact (k0 ‹_›).elim
|exact (k2 ‹_›).elim
|exact (kT ‹_›).elim
|exact (kF ‹_›).elim
|refine ze ?_
|refine zY ?_
|refine zAP ?_
|refine zA ?_
|refine zI ?_
|refine zZ ?_
|refine zW ?_
|refine zi ?_
|apply aw_1
 conv => whnf
 refine ⟨?_,trivial⟩
|apply zn rfl rfl
 . conv => lhs; whnf
 . conv => lhs; whnf
 . first | exact bT1 ‹_› | exact bT2 ‹_›
|apply zl rfl rfl
 . conv => lhs; whnf
 . conv => lhs; whnf
 . first | exact bF1 ‹_› | exact bF2 ‹_›
|apply s_1
 conv => whnf; arg 1; arg 4; arg 3; whnf
 refine ⟨?_,?_⟩
|apply zAF rfl
 . conv => lhs; whnf
 . conv => lhs; whnf; arg 2; whnf
|apply zk rfl
 . conv => lhs; whnf
 . conv => lhs; whnf
 . first | exact h1 | exact h3 | exact h4
|apply zAV rfl rfl rfl rfl
 . conv => lhs; whnf; arg 1; whnf
 . rfl
|apply z8 rfl rfl rfl
 . conv => lhs; whnf
 . conv => lhs; whnf; arg 1; whnf
 . conv => lhs; whnf; arg 1; whnf
 . exact ⟨by kernel_rfl,by kernel_rfl⟩
 . rfl
|apply zQ rfl
 . conv => lhs; whnf
 . conv => lhs; whnf
 . first | rfl | assumption
 . conv => lhs; whnf; arg 2; whnf
|apply zP rfl
 . conv => lhs; whnf
 . conv => lhs; whnf
 . first | rfl | assumption
 . conv => lhs; whnf
 . first | exact h1 | exact h3 | exact h4
|apply zAB rfl
 . conv => lhs; whnf
 . conv => lhs; whnf
 . first | rfl | assumption
|apply zAm rfl
 . conv => lhs; whnf
 . rfl
 . rfl
|apply zb rfl
 . conv => lhs; whnf
 . conv => lhs; whnf
 . conv => lhs; whnf; arg 2; whnf
|apply zt rfl
 . conv => lhs; whnf
 . conv => lhs; whnf
 . conv => lhs; whnf
 . first | exact h1 | exact h3 | exact h4
|apply zm rfl
 . conv => lhs; whnf
 . conv => lhs; whnf
 . conv => lhs; whnf; arg 2; whnf
|apply zg rfl
 . conv => lhs; whnf
 . conv => lhs; whnf
 . conv => lhs; whnf
 . first | exact h1 | exact h3 | exact h4
|apply zq (by kernel_rfl) (by kernel_rfl)
|apply zAR
|apply zAb rfl rfl
 . conv => lhs; whnf
 . conv => lhs; whnf
 . first | exact bT1 ‹_› | exact bT2 ‹_›
|apply zAX rfl rfl
 . conv => lhs; whnf
 . conv => lhs; whnf
 . first | exact bF1 ‹_› | exact bF2 ‹_›
|apply zAQ rfl
 . conv => lhs; whnf
 . conv => lhs; whnf; arg 2; whnf
|apply zAU rfl
 . conv => lhs; whnf
 . conv => lhs; whnf
 . first | exact h1 | exact h3 | exact h4
|apply zAl rfl rfl rfl
 . conv => lhs; whnf
 . rfl
 . rfl
 . conv => lhs; whnf; arg 1; whnf
 . conv => lhs; whnf; arg 1; whnf
 . exact ⟨by kernel_rfl,by kernel_rfl⟩
 . rfl
|apply zz rfl
 . conv => lhs; whnf
 . conv => lhs; whnf
 . first | rfl | assumption
 . conv => lhs; whnf; arg 2; whnf
|apply zw rfl
 . conv => lhs; whnf
 . conv => lhs; whnf
 . first | rfl | assumption
 . conv => lhs; whnf
 . first | exact h1 | exact h3 | exact h4
|apply zAt rfl
 . conv => lhs; whnf
 . conv => lhs; whnf
 . first | rfl | assumption
|apply zAJ rfl
 . conv => lhs; whnf
 . conv => lhs; whnf
 . conv => lhs; whnf; arg 2; whnf
|apply zAD rfl
 . conv => lhs; whnf
 . conv => lhs; whnf
 . conv => lhs; whnf
 . first | exact h1 | exact h3 | exact h4
|exact zR
|exact zX
|exact all_nil
|show List.all _ _ = true; rfl
|show zAC _ _ = true; rfl
|exact ([] : List Nat)
|exact (1000000 : Nat)
|apply zS
 . conv => lhs; whnf; arg 1; arg 1; whnf
|apply zU
 . conv => lhs; whnf; arg 1; arg 1; whnf
|refine zd (by conv => lhs; whnf) ?_ ?_ <;> intro hb
|refine zv ?_
|refine zh ?_
|refine zJ ?_
|refine zK ?_
|refine zH ?_
|refine zE rfl ?_
|refine zM rfl ?_
|refine zL ?_
|refine zO ?_
|refine zC ?_
|refine zN ?_
|refine zAG ?_
|refine zB ?_
|refine ⟨_,by conv => lhs; whnf; arg 2; whnf,?_⟩; conv => rhs; whnf
|exact trivial
|intro hg)
       all_goals first
        | exact zu (by omega)
        | exact zx hi
        | exact zx hi2
        | exact Sub.live ⟨rfl,rfl,rfl,rfl,rfl,trivial⟩ ⟨rfl,rfl,trivial⟩
        | rfl
        | exact (show Tryd.prog.underlying _ = some .bool by kernel_rfl)
        | skip
     . obtain ⟨f0a,f0b,k0⟩:=b_t (t:=(!(((gD l i).f 0).s.toList == ((gD m i).f 0).s.toList))) e0 rfl
       rw [e1] at h1
       obtain ⟨f2a,f2b,k2⟩:=b_t (t:=(((gD l i).f 2).b != ((gD m i).f 2).b)) e2 rfl
       rw [e3] at h3
       rw [e4] at h4
       have e : inEq7 (gD l i) (gD m i) = true:=by unfold inEq7; rw [show sEq ((gD l i).f 0) ((gD m i).f 0) = (((gD l i).f 0).s.toList == ((gD m i).f 0).s.toList) from rfl]; simp only [e0,e1,e2,e3,e4,Bool.true_and,Bool.false_and,Bool.and_false]; try rfl
       repeat' (first
|apply zBH ([(3,[1000000]),(7,[1000000])]) ([(8,[6]),(9,[7]),(10,[6]),(11,[7])]) ([(8,6),(9,7)]) rfl (by kernel_rfl) (by kernel_rfl) (by kernel_rfl) (by intro p hp; simp only [List.mem_cons,List.not_mem_nil,or_false] at hp; rcases hp with rfl | rfl <;> (repeat' (first | exact fresh_S rfl | refine fresh_put ?_ rfl | refine fresh_res ?_ rfl rfl)))
|apply zEU
|apply zBn rfl rfl rfl rfl
 . conv => lhs; whnf; arg 1; whnf
 . rfl
 . rfl
 . kernel_rfl
|apply zET rfl
 . conv => lhs; whnf
 . conv => lhs; whnf; arg 2; whnf
 . kernel_rfl
|apply zBm rfl rfl rfl
 . conv => lhs; whnf
 . rfl
 . conv => lhs; whnf; arg 1; whnf
 . conv => lhs; whnf; arg 1; whnf
 . exact ⟨by kernel_rfl,by kernel_rfl⟩
 . rfl
 . kernel_rfl
|show inO _ _ = true; rfl
|apply s_wanted_pick_t rfl rfl rfl
 . conv => lhs; whnf
 . first | rfl | assumption
 . conv => lhs; whnf
 . first | exact bT1 ‹_› | exact bT2 ‹_› | rfl
|apply zAK rfl rfl rfl
 . conv => lhs; whnf
 . first | rfl | assumption
 . conv => lhs; whnf
 . first | exact bT1 ‹_› | exact bT2 ‹_› | rfl
|apply s_wanted_pick_f rfl rfl rfl
 . conv => lhs; whnf
 . first | rfl | assumption
 . conv => lhs; whnf
 . first | exact bF1 ‹_› | exact bF2 ‹_› | rfl
|apply zAL rfl rfl rfl
 . conv => lhs; whnf
 . first | rfl | assumption
 . conv => lhs; whnf
 . first | exact bF1 ‹_› | exact bF2 ‹_› | rfl
|apply zBI 7 (HzIX7 l m i) rfl
|apply zG
 . conv => lhs; whnf
 . assumption
|apply zF
 . conv => lhs; whnf
 . assumption
|exact (k0 ‹_›).elim
|exact (k2 ‹_›).elim
|exact (kT ‹_›).elim
|exact (kF ‹_›).elim
|refine ze ?_
|refine zY ?_
|refine zAP ?_
|refine zA ?_
|refine zI ?_
|refine zZ ?_
|refine zW ?_
|refine zi ?_
|apply aw_1
 conv => whnf
 refine ⟨?_,trivial⟩
|apply zn rfl rfl
 . conv => lhs; whnf
 . conv => lhs; whnf
 . first | exact bT1 ‹_› | exact bT2 ‹_›
|apply zl rfl rfl
 . conv => lhs; whnf
 . conv => lhs; whnf
 . first | exact bF1 ‹_› | exact bF2 ‹_›
|apply s_1
 conv => whnf; arg 1; arg 4; arg 3; whnf
 refine ⟨?_,?_⟩
|apply zAF rfl
 . conv => lhs; whnf
 . conv => lhs; whnf; arg 2; whnf
|apply zk rfl
 . conv => lhs; whnf
 . conv => lhs; whnf
 . first | exact h1 | exact h3 | exact h4
|apply zAV rfl rfl rfl rfl
 . conv => lhs; whnf; arg 1; whnf
 . rfl
|apply z8 rfl rfl rfl
 . conv => lhs; whnf
 . conv => lhs; whnf; arg 1; whnf
 . conv => lhs; whnf; arg 1; whnf
 . exact ⟨by kernel_rfl,by kernel_rfl⟩
 . rfl
|apply zQ rfl
 . conv => lhs; whnf
 . conv => lhs; whnf
 . first | rfl | assumption
 . conv => lhs; whnf; arg 2; whnf
|apply zP rfl
 . conv => lhs; whnf
 . conv => lhs; whnf
 . first | rfl | assumption
 . conv => lhs; whnf
 . first | exact h1 | exact h3 | exact h4
|apply zAB rfl
 . conv => lhs; whnf
 . conv => lhs; whnf
 . first | rfl | assumption
|apply zAm rfl
 . conv => lhs; whnf
 . rfl
 . rfl
|apply zb rfl
 . conv => lhs; whnf
 . conv => lhs; whnf
 . conv => lhs; whnf; arg 2; whnf
|apply zt rfl
 . conv => lhs; whnf
 . conv => lhs; whnf
 . conv => lhs; whnf
 . first | exact h1 | exact h3 | exact h4
|apply zm rfl
 . conv => lhs; whnf
 . conv => lhs; whnf
 . conv => lhs; whnf; arg 2; whnf
|apply zg rfl
 . conv => lhs; whnf
 . conv => lhs; whnf
 . conv => lhs; whnf
 . first | exact h1 | exact h3 | exact h4
|apply zq (by kernel_rfl) (by kernel_rfl)
|apply zAR
|apply zAb rfl rfl
 . conv => lhs; whnf
 . conv => lhs; whnf
 . first | exact bT1 ‹_› | exact bT2 ‹_›
|apply zAX rfl rfl
 . conv => lhs; whnf
 . conv => lhs; whnf
 . first | exact bF1 ‹_› | exact bF2 ‹_›
|apply zAQ rfl
 . conv => lhs; whnf
 . conv => lhs; whnf; arg 2; whnf
|apply zAU rfl
 . conv => lhs; whnf
 . conv => lhs; whnf
 . first | exact h1 | exact h3 | exact h4
|apply zAl rfl rfl rfl
 . conv => lhs; whnf
 . rfl
 . rfl
 . conv => lhs; whnf; arg 1; whnf
 . conv => lhs; whnf; arg 1; whnf
 . exact ⟨by kernel_rfl,by kernel_rfl⟩
 . rfl
|apply zz rfl
 . conv => lhs; whnf
 . conv => lhs; whnf
 . first | rfl | assumption
 . conv => lhs; whnf; arg 2; whnf
|apply zw rfl
 . conv => lhs; whnf
 . conv => lhs; whnf
 . first | rfl | assumption
 . conv => lhs; whnf
 . first | exact h1 | exact h3 | exact h4
|apply zAt rfl
 . conv => lhs; whnf
 . conv => lhs; whnf
 . first | rfl | assumption
|apply zAJ rfl
 . conv => lhs; whnf
 . conv => lhs; whnf
 . conv => lhs; whnf; arg 2; whnf
|apply zAD rfl
 . conv => lhs; whnf
 . conv => lhs; whnf
 . conv => lhs; whnf
 . first | exact h1 | exact h3 | exact h4
|exact zR
|exact zX
|exact all_nil
|show List.all _ _ = true; rfl
|show zAC _ _ = true; rfl
|exact ([] : List Nat)
|exact (1000000 : Nat)
|apply zS
 . conv => lhs; whnf; arg 1; arg 1; whnf
|apply zU
 . conv => lhs; whnf; arg 1; arg 1; whnf
|refine zd (by conv => lhs; whnf) ?_ ?_ <;> intro hb
|refine zv ?_
|refine zh ?_
|refine zJ ?_
|refine zK ?_
|refine zH ?_
|refine zE rfl ?_
|refine zM rfl ?_
|refine zL ?_
|refine zO ?_
|refine zC ?_
|refine zN ?_
|refine zAG ?_
|refine zB ?_
|refine ⟨_,by conv => lhs; whnf; arg 2; whnf,?_⟩; conv => rhs; whnf
|exact trivial
|intro hg)
       all_goals first
        | exact zu (by omega)
        | exact zx hi
        | exact zx hi2
        | exact Sub.live ⟨rfl,rfl,rfl,rfl,rfl,trivial⟩ ⟨rfl,rfl,trivial⟩
        | exact za (j':=j - 1) (by omega) ⟨i + 1,by omega,zB0 hall e,Sub.live ⟨rfl,rfl,rfl,trivial⟩ trivial⟩
        | rfl
        | exact (show Tryd.prog.underlying _ = some .bool by kernel_rfl)
        | skip
   . have f1 : decide ((i : Int) < (l.length : Nat)) = false:=decide_eq_false (by omega)
     rw [zA1 hlen fun q hq => hall q (by omega)]
     repeat' (first
|apply zG
 . conv => lhs; whnf
 . assumption
|apply zF
 . conv => lhs; whnf
 . assumption
|refine ze ?_
|refine zY ?_
|refine zAP ?_
|refine zA ?_
|refine zI ?_
|refine zZ ?_
|refine zW ?_
|refine zi ?_
|apply aw_1
 conv => whnf
 refine ⟨?_,trivial⟩
|apply zn rfl rfl
 . conv => lhs; whnf
 . conv => lhs; whnf
 . first | exact bT1 ‹_› | exact bT2 ‹_›
|apply zl rfl rfl
 . conv => lhs; whnf
 . conv => lhs; whnf
 . first | exact bF1 ‹_› | exact bF2 ‹_›
|apply s_1
 conv => whnf; arg 1; arg 4; arg 3; whnf
 refine ⟨?_,?_⟩
|apply zAF rfl
 . conv => lhs; whnf
 . conv => lhs; whnf; arg 2; whnf
|apply zk rfl
 . conv => lhs; whnf
 . conv => lhs; whnf
 . first | fail
|apply zAV rfl rfl rfl rfl
 . conv => lhs; whnf; arg 1; whnf
 . rfl
|apply z8 rfl rfl rfl
 . conv => lhs; whnf
 . conv => lhs; whnf; arg 1; whnf
 . conv => lhs; whnf; arg 1; whnf
 . exact ⟨by kernel_rfl,by kernel_rfl⟩
 . rfl
|apply zQ rfl
 . conv => lhs; whnf
 . conv => lhs; whnf
 . first | rfl | assumption
 . conv => lhs; whnf; arg 2; whnf
|apply zP rfl
 . conv => lhs; whnf
 . conv => lhs; whnf
 . first | rfl | assumption
 . conv => lhs; whnf
 . first | fail
|apply zBM rfl
 . conv => lhs; whnf
 . conv => lhs; whnf
 . first | rfl | assumption
|apply zm rfl
 . conv => lhs; whnf
 . conv => lhs; whnf
 . conv => lhs; whnf; arg 2; whnf
|apply zg rfl
 . conv => lhs; whnf
 . conv => lhs; whnf
 . conv => lhs; whnf
 . first | fail
|apply zq (by kernel_rfl) (by kernel_rfl)
|apply zAR
|apply zAb rfl rfl
 . conv => lhs; whnf
 . conv => lhs; whnf
 . first | exact bT1 ‹_› | exact bT2 ‹_›
|apply zAX rfl rfl
 . conv => lhs; whnf
 . conv => lhs; whnf
 . first | exact bF1 ‹_› | exact bF2 ‹_›
|apply zAQ rfl
 . conv => lhs; whnf
 . conv => lhs; whnf; arg 2; whnf
|apply zAU rfl
 . conv => lhs; whnf
 . conv => lhs; whnf
 . first | fail
|apply zAl rfl rfl rfl
 . conv => lhs; whnf
 . rfl
 . rfl
 . conv => lhs; whnf; arg 1; whnf
 . conv => lhs; whnf; arg 1; whnf
 . exact ⟨by kernel_rfl,by kernel_rfl⟩
 . rfl
|apply zz rfl
 . conv => lhs; whnf
 . conv => lhs; whnf
 . first | rfl | assumption
 . conv => lhs; whnf; arg 2; whnf
|apply zw rfl
 . conv => lhs; whnf
 . conv => lhs; whnf
 . first | rfl | assumption
 . conv => lhs; whnf
 . first | fail
|apply zAt rfl
 . conv => lhs; whnf
 . conv => lhs; whnf
 . first | rfl | assumption
|apply zAJ rfl
 . conv => lhs; whnf
 . conv => lhs; whnf
 . conv => lhs; whnf; arg 2; whnf
|apply zAD rfl
 . conv => lhs; whnf
 . conv => lhs; whnf
 . conv => lhs; whnf
 . first | fail
|exact zR
|exact zX
|exact all_nil
|show List.all _ _ = true; rfl
|show zAC _ _ = true; rfl
|exact ([] : List Nat)
|exact (1000000 : Nat)
|apply zS
 . conv => lhs; whnf; arg 1; arg 1; whnf
|apply zU
 . conv => lhs; whnf; arg 1; arg 1; whnf
|refine zd (by conv => lhs; whnf) ?_ ?_ <;> intro hb
|refine zv ?_
|refine zh ?_
|refine zJ ?_
|refine zK ?_
|refine zH ?_
|refine zE rfl ?_
|refine zM rfl ?_
|refine zL ?_
|refine zO ?_
|refine zC ?_
|refine zN ?_
|refine zAG ?_
|refine zB ?_
|refine ⟨_,by conv => lhs; whnf; arg 2; whnf,?_⟩; conv => rhs; whnf
|exact trivial
|intro hg)
 . have f0 : ((l.length : Int) != (m.length : Int)) = true:=by simp; omega
   rw [zBd f0]
   refine zV 63 Tryd.func39 rfl rfl rfl rfl ?_
   intro s w he
   repeat' (first
|apply zG
 . conv => lhs; whnf
 . assumption
|apply zF
 . conv => lhs; whnf
 . assumption
|refine ze ?_
|refine zY ?_
|refine zAP ?_
|refine zA ?_
|refine zI ?_
|refine zZ ?_
|refine zW ?_
|refine zi ?_
|apply aw_1
 conv => whnf
 refine ⟨?_,trivial⟩
|apply zn rfl rfl
 . conv => lhs; whnf
 . conv => lhs; whnf
 . first | exact bT1 ‹_› | exact bT2 ‹_›
|apply zl rfl rfl
 . conv => lhs; whnf
 . conv => lhs; whnf
 . first | exact bF1 ‹_› | exact bF2 ‹_›
|apply s_1
 conv => whnf; arg 1; arg 4; arg 3; whnf
 refine ⟨?_,?_⟩
|apply zAF rfl
 . conv => lhs; whnf
 . conv => lhs; whnf; arg 2; whnf
|apply zk rfl
 . conv => lhs; whnf
 . conv => lhs; whnf
 . first | fail
|apply zAV rfl rfl rfl rfl
 . conv => lhs; whnf; arg 1; whnf
 . rfl
|apply z8 rfl rfl rfl
 . conv => lhs; whnf
 . conv => lhs; whnf; arg 1; whnf
 . conv => lhs; whnf; arg 1; whnf
 . exact ⟨by kernel_rfl,by kernel_rfl⟩
 . rfl
|apply zQ rfl
 . conv => lhs; whnf
 . conv => lhs; whnf
 . first | rfl | assumption
 . conv => lhs; whnf; arg 2; whnf
|apply zP rfl
 . conv => lhs; whnf
 . conv => lhs; whnf
 . first | rfl | assumption
 . conv => lhs; whnf
 . first | fail
|apply zBM rfl
 . conv => lhs; whnf
 . conv => lhs; whnf
 . first | rfl | assumption
|apply zm rfl
 . conv => lhs; whnf
 . conv => lhs; whnf
 . conv => lhs; whnf; arg 2; whnf
|apply zg rfl
 . conv => lhs; whnf
 . conv => lhs; whnf
 . conv => lhs; whnf
 . first | fail
|apply zq (by kernel_rfl) (by kernel_rfl)
|apply zAR
|apply zAb rfl rfl
 . conv => lhs; whnf
 . conv => lhs; whnf
 . first | exact bT1 ‹_› | exact bT2 ‹_›
|apply zAX rfl rfl
 . conv => lhs; whnf
 . conv => lhs; whnf
 . first | exact bF1 ‹_› | exact bF2 ‹_›
|apply zAQ rfl
 . conv => lhs; whnf
 . conv => lhs; whnf; arg 2; whnf
|apply zAU rfl
 . conv => lhs; whnf
 . conv => lhs; whnf
 . first | fail
|apply zAl rfl rfl rfl
 . conv => lhs; whnf
 . rfl
 . rfl
 . conv => lhs; whnf; arg 1; whnf
 . conv => lhs; whnf; arg 1; whnf
 . exact ⟨by kernel_rfl,by kernel_rfl⟩
 . rfl
|apply zz rfl
 . conv => lhs; whnf
 . conv => lhs; whnf
 . first | rfl | assumption
 . conv => lhs; whnf; arg 2; whnf
|apply zw rfl
 . conv => lhs; whnf
 . conv => lhs; whnf
 . first | rfl | assumption
 . conv => lhs; whnf
 . first | fail
|apply zAt rfl
 . conv => lhs; whnf
 . conv => lhs; whnf
 . first | rfl | assumption
|apply zAJ rfl
 . conv => lhs; whnf
 . conv => lhs; whnf
 . conv => lhs; whnf; arg 2; whnf
|apply zAD rfl
 . conv => lhs; whnf
 . conv => lhs; whnf
 . conv => lhs; whnf
 . first | fail
|exact zR
|exact zX
|exact all_nil
|show List.all _ _ = true; rfl
|show zAC _ _ = true; rfl
|exact ([] : List Nat)
|exact (1000000 : Nat)
|apply zS
 . conv => lhs; whnf; arg 1; arg 1; whnf
|apply zU
 . conv => lhs; whnf; arg 1; arg 1; whnf
|refine zd (by conv => lhs; whnf) ?_ ?_ <;> intro hb
|refine zv ?_
|refine zh ?_
|refine zJ ?_
|refine zK ?_
|refine zH ?_
|refine zE rfl ?_
|refine zM rfl ?_
|refine zL ?_
|refine zO ?_
|refine zC ?_
|refine zN ?_
|refine zAG ?_
|refine zB ?_
|refine ⟨_,by conv => lhs; whnf; arg 2; whnf,?_⟩; conv => rhs; whnf
|exact trivial
|intro hg)
noncomputable def HzF7 (a b : D) (i : Nat) : Vst 142:=stS 142 [(2,.bx 2 0),(3,.bx 3 0),(5,.c (.int .i64 (i : Int)))] [(2,.box 35 (cellsV Tryd.prog 12 35 a)),(3,.box 35 (cellsV Tryd.prog 12 35 b))]
noncomputable def HzM7 (a b : D) (i : Nat) : Vst 142:=stS 142 [(2,.bx 2 0),(3,.bx 3 0),(8,.c (.int .i64 (i : Int)))] [(2,.box 35 (cellsV Tryd.prog 12 35 a)),(3,.box 35 (cellsV Tryd.prog 12 35 b))]
noncomputable def HzX7 (a b : D) (i : Nat) : Vst 142:=stS 142 [(2,.bx 2 0),(3,.bx 3 0),(5,.c (.int .i64 (i : Int))),(6,.bx 6 0),(7,.bx 7 0)] [(2,.box 35 (cellsV Tryd.prog 12 35 a)),(3,.box 35 (cellsV Tryd.prog 12 35 b)),(6,.box 40 (cellsV Tryd.prog 12 40 (gD (a.f 4).l i))),(7,.box 40 (cellsV Tryd.prog 12 40 (gD (b.f 4).l i)))]
theorem defZ_ac (a b : D) (ha : bulkD a <= 100000000) (hb : bulkD b <= 100000000) : AC EN Tryd.prog 20 [.agg (cellsV Tryd.prog 12 35 a),.agg (cellsV Tryd.prog 12 35 b)] (.c (.bool (dfEq7 a b))):=by
 have b4:=zr a 4
 have b4':=zr b 4
 have b5:=zr a 5
 have b5':=zr b 5
 have n4:=zAY (a.f 4).l
 have n5:=zAY (a.f 5).l
 have hz:=insZ_ac (a.f 6).l (b.f 6).l (by have:=zr a 6; omega) (by have:=zr b 6; omega)
 have h2:=textsZ_ac (a.f 2).l (b.f 2).l (by have:=zr a 2; omega) (by have:=zr b 2; omega)
 have h3:=zD0 (a.f 3).l (b.f 3).l (by have:=zr a 3; omega) (by have:=zr b 3; omega)
 have kT:=zHU
 have kF:=zHV
 have fT:=zDc
 rcases chain6 ((a.f 0).n == (b.f 0).n) ((a.f 1).s.toList == (b.f 1).s.toList) (eqL sEq (a.f 2).l (b.f 2).l) (eqL dirEq (a.f 3).l (b.f 3).l) (((a.f 4).l.length : Int) == ((b.f 4).l.length : Int)) (((a.f 5).l.length : Int) == ((b.f 5).l.length : Int)) with e0 | ⟨e0,e1⟩ | ⟨e0,e1,e2⟩ | ⟨e0,e1,e2,e3⟩ | ⟨e0,e1,e2,e3,e4⟩ | ⟨e0,e1,e2,e3,e4,e5⟩ | ⟨e0,e1,e2,e3,e4,e5⟩
 . obtain ⟨f0a,f0b,k0⟩:=b_f (t:=((a.f 0).n != (b.f 0).n)) e0 rfl
   have e : dfEq7 a b = false:=by unfold dfEq7; rw [show sEq (a.f 1) (b.f 1) = ((a.f 1).s.toList == (b.f 1).s.toList) from rfl]; simp only [e0,Bool.true_and,Bool.false_and,Bool.and_false]
   rw [e]
   refine zV 142 Tryd.func20 rfl rfl rfl rfl ?_
   intro s w he
   repeat' (first
|refine zA ?_
|refine zI ?_
|refine zZ ?_
|apply aw_1
 conv => whnf
 refine ⟨?_,trivial⟩
|apply zn rfl rfl
 . conv => lhs; whnf
 . conv => lhs; whnf
 . first | exact bT1 ‹_› | exact bT2 ‹_›
|apply s_1
 conv => whnf; arg 1; arg 4; arg 3; whnf
 refine ⟨?_,?_⟩
|apply zAO rfl rfl rfl rfl
 . conv => lhs; whnf; arg 1; whnf
 . rfl
|apply zAB rfl
 . conv => lhs; whnf
 . conv => lhs; whnf
 . first | rfl | assumption
|refine zK ?_
|refine zB ?_
|refine ⟨_,by conv => lhs; whnf; arg 2; whnf,?_⟩; conv => rhs; whnf
|exact trivial)
   all_goals first
    | exact zu (by omega)
    | rfl
    | exact (show Tryd.prog.underlying _ = some .bool by kernel_rfl)
    | skip
 . obtain ⟨f0a,f0b,k0⟩:=b_t (t:=((a.f 0).n != (b.f 0).n)) e0 rfl
   obtain ⟨f1a,f1b,k1⟩:=b_f (t:=(!((a.f 1).s.toList == (b.f 1).s.toList))) e1 rfl
   have e : dfEq7 a b = false:=by unfold dfEq7; rw [show sEq (a.f 1) (b.f 1) = ((a.f 1).s.toList == (b.f 1).s.toList) from rfl]; simp only [e0,e1,Bool.true_and,Bool.false_and,Bool.and_false]
   rw [e]
   refine zV 142 Tryd.func20 rfl rfl rfl rfl ?_
   intro s w he
   repeat' (first
|refine zA ?_
|refine zI ?_
|refine zZ ?_
|apply aw_1
 conv => whnf
 refine ⟨?_,trivial⟩
|apply zn rfl rfl
 . conv => lhs; whnf
 . conv => lhs; whnf
 . first | exact bT1 ‹_› | exact bT2 ‹_›
|apply zl rfl rfl
 . conv => lhs; whnf
 . conv => lhs; whnf
 . first | exact bF1 ‹_› | exact bF2 ‹_›
|apply s_1
 conv => whnf; arg 1; arg 4; arg 3; whnf
 refine ⟨?_,?_⟩
|apply zAO rfl rfl rfl rfl
 . conv => lhs; whnf; arg 1; whnf
 . rfl
|apply zQ rfl
 . conv => lhs; whnf
 . conv => lhs; whnf
 . first | rfl | assumption
 . conv => lhs; whnf; arg 2; whnf
|apply zAB rfl
 . conv => lhs; whnf
 . conv => lhs; whnf
 . first | rfl | assumption
|refine zK ?_
|refine zB ?_
|refine ⟨_,by conv => lhs; whnf; arg 2; whnf,?_⟩; conv => rhs; whnf
|exact trivial)
   all_goals first
    | exact zu (by omega)
    | rfl
    | exact (show Tryd.prog.underlying _ = some .bool by kernel_rfl)
    | skip
 . obtain ⟨f0a,f0b,k0⟩:=b_t (t:=((a.f 0).n != (b.f 0).n)) e0 rfl
   obtain ⟨f1a,f1b,k1⟩:=b_t (t:=(!((a.f 1).s.toList == (b.f 1).s.toList))) e1 rfl
   rw [e2] at h2
   have e : dfEq7 a b = false:=by unfold dfEq7; rw [show sEq (a.f 1) (b.f 1) = ((a.f 1).s.toList == (b.f 1).s.toList) from rfl]; simp only [e0,e1,e2,Bool.true_and,Bool.false_and,Bool.and_false]
   rw [e]
   refine zV 142 Tryd.func20 rfl rfl rfl rfl ?_
   intro s w he
   repeat' (first
|refine zA ?_
|refine zI ?_
|refine zZ ?_
|apply aw_1
 conv => whnf
 refine ⟨?_,trivial⟩
|apply zn rfl rfl
 . conv => lhs; whnf
 . conv => lhs; whnf
 . first | exact bT1 ‹_› | exact bT2 ‹_›
|apply zl rfl rfl
 . conv => lhs; whnf
 . conv => lhs; whnf
 . first | exact bF1 ‹_› | exact bF2 ‹_›
|apply s_1
 conv => whnf; arg 1; arg 4; arg 3; whnf
 refine ⟨?_,?_⟩
|apply zAO rfl rfl rfl rfl
 . conv => lhs; whnf; arg 1; whnf
 . rfl
|apply zQ rfl
 . conv => lhs; whnf
 . conv => lhs; whnf
 . first | rfl | assumption
 . conv => lhs; whnf; arg 2; whnf
|apply zP rfl
 . conv => lhs; whnf
 . conv => lhs; whnf
 . first | rfl | assumption
 . conv => lhs; whnf
 . first | exact h2
|refine zK ?_
|refine zB ?_
|refine ⟨_,by conv => lhs; whnf; arg 2; whnf,?_⟩; conv => rhs; whnf
|exact trivial)
   all_goals first
    | exact zu (by omega)
    | rfl
    | exact (show Tryd.prog.underlying _ = some .bool by kernel_rfl)
    | skip
 . obtain ⟨f0a,f0b,k0⟩:=b_t (t:=((a.f 0).n != (b.f 0).n)) e0 rfl
   obtain ⟨f1a,f1b,k1⟩:=b_t (t:=(!((a.f 1).s.toList == (b.f 1).s.toList))) e1 rfl
   rw [e2] at h2
   rw [e3] at h3
   have e : dfEq7 a b = false:=by unfold dfEq7; rw [show sEq (a.f 1) (b.f 1) = ((a.f 1).s.toList == (b.f 1).s.toList) from rfl]; simp only [e0,e1,e2,e3,Bool.true_and,Bool.false_and,Bool.and_false]
   rw [e]
   refine zV 142 Tryd.func20 rfl rfl rfl rfl ?_
   intro s w he
   repeat' (first
|refine zA ?_
|refine zI ?_
|refine zZ ?_
|apply aw_1
 conv => whnf
 refine ⟨?_,trivial⟩
|apply zn rfl rfl
 . conv => lhs; whnf
 . conv => lhs; whnf
 . first | exact bT1 ‹_› | exact bT2 ‹_›
|apply zl rfl rfl
 . conv => lhs; whnf
 . conv => lhs; whnf
 . first | exact bF1 ‹_› | exact bF2 ‹_›
|apply s_1
 conv => whnf; arg 1; arg 4; arg 3; whnf
 refine ⟨?_,?_⟩
|apply zAO rfl rfl rfl rfl
 . conv => lhs; whnf; arg 1; whnf
 . rfl
|apply zQ rfl
 . conv => lhs; whnf
 . conv => lhs; whnf
 . first | rfl | assumption
 . conv => lhs; whnf; arg 2; whnf
|apply zP rfl
 . conv => lhs; whnf
 . conv => lhs; whnf
 . first | rfl | assumption
 . conv => lhs; whnf
 . first | exact h2 | exact h3
|refine zK ?_
|refine zB ?_
|refine ⟨_,by conv => lhs; whnf; arg 2; whnf,?_⟩; conv => rhs; whnf
|exact trivial)
   all_goals first
    | exact zu (by omega)
    | rfl
    | exact (show Tryd.prog.underlying _ = some .bool by kernel_rfl)
    | skip
 . obtain ⟨f0a,f0b,k0⟩:=b_t (t:=((a.f 0).n != (b.f 0).n)) e0 rfl
   obtain ⟨f1a,f1b,k1⟩:=b_t (t:=(!((a.f 1).s.toList == (b.f 1).s.toList))) e1 rfl
   rw [e2] at h2
   rw [e3] at h3
   obtain ⟨f4a,f4b,k4⟩:=b_f (t:=(((a.f 4).l.length : Int) != ((b.f 4).l.length : Int))) e4 rfl
   have z:=zBd (f:=fdEq7) (l:=(a.f 4).l) (m:=(b.f 4).l) (lenI_f e4)
   have e : dfEq7 a b = false:=by unfold dfEq7; rw [show sEq (a.f 1) (b.f 1) = ((a.f 1).s.toList == (b.f 1).s.toList) from rfl]; simp only [e0,e1,e2,e3,z,Bool.true_and,Bool.false_and,Bool.and_false]
   rw [e]
   refine zV 142 Tryd.func20 rfl rfl rfl rfl ?_
   intro s w he
   repeat' (first
|refine zA ?_
|refine zI ?_
|refine zZ ?_
|apply aw_1
 conv => whnf
 refine ⟨?_,trivial⟩
|apply zn rfl rfl
 . conv => lhs; whnf
 . conv => lhs; whnf
 . first | exact bT1 ‹_› | exact bT2 ‹_›
|apply zl rfl rfl
 . conv => lhs; whnf
 . conv => lhs; whnf
 . first | exact bF1 ‹_› | exact bF2 ‹_›
|apply s_1
 conv => whnf; arg 1; arg 4; arg 3; whnf
 refine ⟨?_,?_⟩
|apply zAO rfl rfl rfl rfl
 . conv => lhs; whnf; arg 1; whnf
 . rfl
|apply zQ rfl
 . conv => lhs; whnf
 . conv => lhs; whnf
 . first | rfl | assumption
 . conv => lhs; whnf; arg 2; whnf
|apply zP rfl
 . conv => lhs; whnf
 . conv => lhs; whnf
 . first | rfl | assumption
 . conv => lhs; whnf
 . first | exact h2 | exact h3
|apply zAB rfl
 . conv => lhs; whnf
 . conv => lhs; whnf
 . first | rfl | assumption
|refine zK ?_
|refine zB ?_
|refine ⟨_,by conv => lhs; whnf; arg 2; whnf,?_⟩; conv => rhs; whnf
|exact trivial)
   all_goals first
    | exact zu (by omega)
    | rfl
    | exact (show Tryd.prog.underlying _ = some .bool by kernel_rfl)
    | skip
 . obtain ⟨f0a,f0b,k0⟩:=b_t (t:=((a.f 0).n != (b.f 0).n)) e0 rfl
   obtain ⟨f1a,f1b,k1⟩:=b_t (t:=(!((a.f 1).s.toList == (b.f 1).s.toList))) e1 rfl
   rw [e2] at h2
   rw [e3] at h3
   obtain ⟨f4a,f4b,k4⟩:=b_t (t:=(((a.f 4).l.length : Int) != ((b.f 4).l.length : Int))) e4 rfl
   obtain ⟨f5a,f5b,k5⟩:=b_f (t:=(((a.f 5).l.length : Int) != ((b.f 5).l.length : Int))) e5 rfl
   have z:=zBd (f:=mbEq7) (l:=(a.f 5).l) (m:=(b.f 5).l) (lenI_f e5)
   have e : dfEq7 a b = false:=by unfold dfEq7; rw [show sEq (a.f 1) (b.f 1) = ((a.f 1).s.toList == (b.f 1).s.toList) from rfl]; simp only [e0,e1,e2,e3,z,Bool.true_and,Bool.false_and,Bool.and_false]
   rw [e]
   refine zV 142 Tryd.func20 rfl rfl rfl rfl ?_
   intro s w he
   repeat' (first
|apply zG
 . conv => lhs; whnf
 . assumption
|refine zA ?_
|refine zI ?_
|refine zZ ?_
|apply aw_1
 conv => whnf
 refine ⟨?_,trivial⟩
|apply zl rfl rfl
 . conv => lhs; whnf
 . conv => lhs; whnf
 . first | exact bF1 ‹_› | exact bF2 ‹_›
|apply s_1
 conv => whnf; arg 1; arg 4; arg 3; whnf
 refine ⟨?_,?_⟩
|apply zAO rfl rfl rfl rfl
 . conv => lhs; whnf; arg 1; whnf
 . rfl
|apply zQ rfl
 . conv => lhs; whnf
 . conv => lhs; whnf
 . first | rfl | assumption
 . conv => lhs; whnf; arg 2; whnf
|apply zP rfl
 . conv => lhs; whnf
 . conv => lhs; whnf
 . first | rfl | assumption
 . conv => lhs; whnf
 . first | exact h2 | exact h3
|refine zK ?_
|refine zB ?_
|refine ⟨_,by conv => lhs; whnf; arg 2; whnf,?_⟩; conv => rhs; whnf
|exact trivial)
   all_goals first
    | exact zu (by omega)
    | rfl
    | exact (show Tryd.prog.underlying _ = some .bool by kernel_rfl)
    | skip
 . obtain ⟨f0a,f0b,k0⟩:=b_t (t:=((a.f 0).n != (b.f 0).n)) e0 rfl
   obtain ⟨f1a,f1b,k1⟩:=b_t (t:=(!((a.f 1).s.toList == (b.f 1).s.toList))) e1 rfl
   rw [e2] at h2
   rw [e3] at h3
   obtain ⟨f4a,f4b,k4⟩:=b_t (t:=(((a.f 4).l.length : Int) != ((b.f 4).l.length : Int))) e4 rfl
   obtain ⟨f5a,f5b,k5⟩:=b_t (t:=(((a.f 5).l.length : Int) != ((b.f 5).l.length : Int))) e5 rfl
   have hl4:=lenI_t e4
   have hl5:=lenI_t e5
   have hsp : dfEq7 a b = (eqL fdEq7 (a.f 4).l (b.f 4).l && (eqL inEq7 (a.f 6).l (b.f 6).l && eqL mbEq7 (a.f 5).l (b.f 5).l)):=by
    unfold dfEq7
    rw [show sEq (a.f 1) (b.f 1) = ((a.f 1).s.toList == (b.f 1).s.toList) from rfl,e0,e1,e2,e3]
    simp only [Bool.true_and]
   rw [hsp]
   refine zV 142 Tryd.func20 rfl rfl rfl rfl ?_
   intro s w he
   repeat' (first
|apply zF
 . conv => lhs; whnf
 . assumption
|refine zA ?_
|refine zI ?_
|refine zZ ?_
|apply aw_1
 conv => whnf
 refine ⟨?_,trivial⟩
|apply zl rfl rfl
 . conv => lhs; whnf
 . conv => lhs; whnf
 . first | exact bF1 ‹_› | exact bF2 ‹_›
|apply s_1
 conv => whnf; arg 1; arg 4; arg 3; whnf
 refine ⟨?_,?_⟩
|apply zAO rfl rfl rfl rfl
 . conv => lhs; whnf; arg 1; whnf
 . rfl
|apply zQ rfl
 . conv => lhs; whnf
 . conv => lhs; whnf
 . first | rfl | assumption
 . conv => lhs; whnf; arg 2; whnf
|apply zP rfl
 . conv => lhs; whnf
 . conv => lhs; whnf
 . first | rfl | assumption
 . conv => lhs; whnf
 . first | exact h2 | exact h3
|exact trivial)
   clear f0a f0b k0 f1a f1b k1 f4a f4b k4 f5a f5b k5 hsp e0 e1 e2 e3 e4 e5 h2 h3
   refine z7 (fun j st => ∃ i,i + j = (a.f 4).l.length /\ (∀ q,q < i -> fdEq7 (gD (a.f 4).l q) (gD (b.f 4).l q) = true) /\ Sub (cx EN Tryd.prog s w he) st (HzF7 a b i)) (a.f 4).l.length ⟨0,by omega,fun q hq => by omega,Sub.live ⟨rfl,rfl,rfl,trivial⟩ ⟨rfl,rfl,trivial⟩⟩ ?_
   rintro j st ⟨i,hij,hall,hs2⟩
   refine zAA hs2 ?_
   clear hs2
   by_cases hi : i < (a.f 4).l.length
   . have g1 : decide ((i : Int) < ((a.f 4).l.length : Nat)) = true:=decide_eq_true (by omega)
     have hi2 : i < (b.f 4).l.length:=by omega
     have bx:=zAZ hi (Nat.le_refl _)
     have by_:=zAZ hi2 (Nat.le_refl _)
     have h1:=zHs ((gD (a.f 4).l i).f 2) ((gD (b.f 4).l i).f 2) (by have:=zr (gD (a.f 4).l i) 2; omega)
     have h2:=zD0 ((gD (a.f 4).l i).f 3).l ((gD (b.f 4).l i).f 3).l (by have:=zr (gD (a.f 4).l i) 3; omega) (by have:=zr (gD (b.f 4).l i) 3; omega)
     have h3:=insZ_ac ((gD (a.f 4).l i).f 1).l ((gD (b.f 4).l i).f 1).l (by have:=zr (gD (a.f 4).l i) 1; omega) (by have:=zr (gD (b.f 4).l i) 1; omega)
     have kT:=zHU
     have kF:=zHV
     have fT:=zDc
     rcases chain4 (((gD (a.f 4).l i).f 0).s.toList == ((gD (b.f 4).l i).f 0).s.toList) (zDq ((gD (a.f 4).l i).f 2) ((gD (b.f 4).l i).f 2)) (eqL dirEq ((gD (a.f 4).l i).f 3).l ((gD (b.f 4).l i).f 3).l) (eqL inEq7 ((gD (a.f 4).l i).f 1).l ((gD (b.f 4).l i).f 1).l) with e0 | ⟨e0,e1⟩ | ⟨e0,e1,e2⟩ | ⟨e0,e1,e2,e3⟩ | ⟨e0,e1,e2,e3⟩
     . obtain ⟨f0a,f0b,k0⟩:=b_f (t:=(!(((gD (a.f 4).l i).f 0).s.toList == ((gD (b.f 4).l i).f 0).s.toList))) e0 rfl
       have e : fdEq7 (gD (a.f 4).l i) (gD (b.f 4).l i) = false:=by unfold fdEq7; rw [show sEq ((gD (a.f 4).l i).f 0) ((gD (b.f 4).l i).f 0) = (((gD (a.f 4).l i).f 0).s.toList == ((gD (b.f 4).l i).f 0).s.toList) from rfl]; simp only [e0,Bool.true_and,Bool.false_and,Bool.and_false]
       rw [zAg hi e,Bool.false_and]
       repeat' (first
|apply zBH ([(1,[2]),(6,[3])]) ([(10,[6]),(11,[7]),(12,[6]),(13,[7])]) ([(10,6),(11,7)]) rfl (by kernel_rfl) (by kernel_rfl) (by kernel_rfl) (by intro p hp; simp only [List.mem_cons,List.not_mem_nil,or_false] at hp; rcases hp with rfl | rfl <;> (repeat' (first | exact fresh_S rfl | refine fresh_put ?_ rfl | refine fresh_res ?_ rfl rfl)))
|apply zEU
|apply zBn rfl rfl rfl rfl
 . conv => lhs; whnf; arg 1; whnf
 . rfl
 . rfl
 . kernel_rfl
|apply zET rfl
 . conv => lhs; whnf
 . conv => lhs; whnf; arg 2; whnf
 . kernel_rfl
|apply zBm rfl rfl rfl
 . conv => lhs; whnf
 . rfl
 . conv => lhs; whnf; arg 1; whnf
 . conv => lhs; whnf; arg 1; whnf
 . exact ⟨by kernel_rfl,by kernel_rfl⟩
 . rfl
 . kernel_rfl
|show inO _ _ = true; rfl
|apply zBI 7 (HzX7 a b i) rfl
|apply zG
 . conv => lhs; whnf
 . assumption
|refine zAP ?_
|refine zA ?_
|refine zI ?_
|refine zZ ?_
|apply aw_1
 conv => whnf
 refine ⟨?_,trivial⟩
|apply zn rfl rfl
 . conv => lhs; whnf
 . conv => lhs; whnf
 . first | exact bT1 ‹_› | exact bT2 ‹_›
|apply s_1
 conv => whnf; arg 1; arg 4; arg 3; whnf
 refine ⟨?_,?_⟩
|apply zAB rfl
 . conv => lhs; whnf
 . conv => lhs; whnf
 . first | rfl | assumption
|refine zK ?_
|refine zH ?_
|refine zN ?_
|refine zB ?_
|refine ⟨_,by conv => lhs; whnf; arg 2; whnf,?_⟩; conv => rhs; whnf
|exact trivial)
       all_goals first
        | exact zu (by omega)
        | exact zx hi
        | exact zx hi2
        | exact Sub.live ⟨rfl,rfl,rfl,rfl,rfl,trivial⟩ ⟨rfl,rfl,rfl,rfl,trivial⟩
        | rfl
        | exact (show Tryd.prog.underlying _ = some .bool by kernel_rfl)
        | skip
     . obtain ⟨f0a,f0b,k0⟩:=b_t (t:=(!(((gD (a.f 4).l i).f 0).s.toList == ((gD (b.f 4).l i).f 0).s.toList))) e0 rfl
       rw [e1] at h1
       have e : fdEq7 (gD (a.f 4).l i) (gD (b.f 4).l i) = false:=by unfold fdEq7; rw [show sEq ((gD (a.f 4).l i).f 0) ((gD (b.f 4).l i).f 0) = (((gD (a.f 4).l i).f 0).s.toList == ((gD (b.f 4).l i).f 0).s.toList) from rfl]; simp only [e0,e1,Bool.true_and,Bool.false_and,Bool.and_false]
       rw [zAg hi e,Bool.false_and]
       repeat' (first
|apply zBH ([(1,[2]),(6,[3])]) ([(10,[6]),(11,[7]),(12,[6]),(13,[7])]) ([(10,6),(11,7)]) rfl (by kernel_rfl) (by kernel_rfl) (by kernel_rfl) (by intro p hp; simp only [List.mem_cons,List.not_mem_nil,or_false] at hp; rcases hp with rfl | rfl <;> (repeat' (first | exact fresh_S rfl | refine fresh_put ?_ rfl | refine fresh_res ?_ rfl rfl)))
|apply zEU
|apply zBn rfl rfl rfl rfl
 . conv => lhs; whnf; arg 1; whnf
 . rfl
 . rfl
 . kernel_rfl
|apply zET rfl
 . conv => lhs; whnf
 . conv => lhs; whnf; arg 2; whnf
 . kernel_rfl
|apply zBm rfl rfl rfl
 . conv => lhs; whnf
 . rfl
 . conv => lhs; whnf; arg 1; whnf
 . conv => lhs; whnf; arg 1; whnf
 . exact ⟨by kernel_rfl,by kernel_rfl⟩
 . rfl
 . kernel_rfl
|show inO _ _ = true; rfl
|apply zBI 7 (HzX7 a b i) rfl
|apply zG
 . conv => lhs; whnf
 . assumption
|refine zAP ?_
|refine zA ?_
|refine zI ?_
|refine zZ ?_
|apply aw_1
 conv => whnf
 refine ⟨?_,trivial⟩
|apply zn rfl rfl
 . conv => lhs; whnf
 . conv => lhs; whnf
 . first | exact bT1 ‹_› | exact bT2 ‹_›
|apply zl rfl rfl
 . conv => lhs; whnf
 . conv => lhs; whnf
 . first | exact bF1 ‹_› | exact bF2 ‹_›
|apply s_1
 conv => whnf; arg 1; arg 4; arg 3; whnf
 refine ⟨?_,?_⟩
|apply zQ rfl
 . conv => lhs; whnf
 . conv => lhs; whnf
 . first | rfl | assumption
 . conv => lhs; whnf; arg 2; whnf
|apply zP rfl
 . conv => lhs; whnf
 . conv => lhs; whnf
 . first | rfl | assumption
 . conv => lhs; whnf
 . first | exact h1
|refine zK ?_
|refine zH ?_
|refine zN ?_
|refine zB ?_
|refine ⟨_,by conv => lhs; whnf; arg 2; whnf,?_⟩; conv => rhs; whnf
|exact trivial)
       all_goals first
        | exact zu (by omega)
        | exact zx hi
        | exact zx hi2
        | exact Sub.live ⟨rfl,rfl,rfl,rfl,rfl,trivial⟩ ⟨rfl,rfl,rfl,rfl,trivial⟩
        | rfl
        | exact (show Tryd.prog.underlying _ = some .bool by kernel_rfl)
        | skip
     . obtain ⟨f0a,f0b,k0⟩:=b_t (t:=(!(((gD (a.f 4).l i).f 0).s.toList == ((gD (b.f 4).l i).f 0).s.toList))) e0 rfl
       rw [e1] at h1
       rw [e2] at h2
       have e : fdEq7 (gD (a.f 4).l i) (gD (b.f 4).l i) = false:=by unfold fdEq7; rw [show sEq ((gD (a.f 4).l i).f 0) ((gD (b.f 4).l i).f 0) = (((gD (a.f 4).l i).f 0).s.toList == ((gD (b.f 4).l i).f 0).s.toList) from rfl]; simp only [e0,e1,e2,Bool.true_and,Bool.false_and,Bool.and_false]
       rw [zAg hi e,Bool.false_and]
       repeat' (first
|apply zBH ([(1,[2]),(6,[3])]) ([(10,[6]),(11,[7]),(12,[6]),(13,[7])]) ([(10,6),(11,7)]) rfl (by kernel_rfl) (by kernel_rfl) (by kernel_rfl) (by intro p hp; simp only [List.mem_cons,List.not_mem_nil,or_false] at hp; rcases hp with rfl | rfl <;> (repeat' (first | exact fresh_S rfl | refine fresh_put ?_ rfl | refine fresh_res ?_ rfl rfl)))
|apply zEU
|apply zBn rfl rfl rfl rfl
 . conv => lhs; whnf; arg 1; whnf
 . rfl
 . rfl
 . kernel_rfl
|apply zET rfl
 . conv => lhs; whnf
 . conv => lhs; whnf; arg 2; whnf
 . kernel_rfl
|apply zBm rfl rfl rfl
 . conv => lhs; whnf
 . rfl
 . conv => lhs; whnf; arg 1; whnf
 . conv => lhs; whnf; arg 1; whnf
 . exact ⟨by kernel_rfl,by kernel_rfl⟩
 . rfl
 . kernel_rfl
|show inO _ _ = true; rfl
|apply zBI 7 (HzX7 a b i) rfl
|apply zG
 . conv => lhs; whnf
 . assumption
|refine zAP ?_
|refine zA ?_
|refine zI ?_
|refine zZ ?_
|apply aw_1
 conv => whnf
 refine ⟨?_,trivial⟩
|apply zn rfl rfl
 . conv => lhs; whnf
 . conv => lhs; whnf
 . first | exact bT1 ‹_› | exact bT2 ‹_›
|apply zl rfl rfl
 . conv => lhs; whnf
 . conv => lhs; whnf
 . first | exact bF1 ‹_› | exact bF2 ‹_›
|apply s_1
 conv => whnf; arg 1; arg 4; arg 3; whnf
 refine ⟨?_,?_⟩
|apply zQ rfl
 . conv => lhs; whnf
 . conv => lhs; whnf
 . first | rfl | assumption
 . conv => lhs; whnf; arg 2; whnf
|apply zP rfl
 . conv => lhs; whnf
 . conv => lhs; whnf
 . first | rfl | assumption
 . conv => lhs; whnf
 . first | exact h1 | exact h2
|refine zK ?_
|refine zH ?_
|refine zN ?_
|refine zB ?_
|refine ⟨_,by conv => lhs; whnf; arg 2; whnf,?_⟩; conv => rhs; whnf
|exact trivial)
       all_goals first
        | exact zu (by omega)
        | exact zx hi
        | exact zx hi2
        | exact Sub.live ⟨rfl,rfl,rfl,rfl,rfl,trivial⟩ ⟨rfl,rfl,rfl,rfl,trivial⟩
        | rfl
        | exact (show Tryd.prog.underlying _ = some .bool by kernel_rfl)
        | skip
     . obtain ⟨f0a,f0b,k0⟩:=b_t (t:=(!(((gD (a.f 4).l i).f 0).s.toList == ((gD (b.f 4).l i).f 0).s.toList))) e0 rfl
       rw [e1] at h1
       rw [e2] at h2
       rw [e3] at h3
       have e : fdEq7 (gD (a.f 4).l i) (gD (b.f 4).l i) = false:=by unfold fdEq7; rw [show sEq ((gD (a.f 4).l i).f 0) ((gD (b.f 4).l i).f 0) = (((gD (a.f 4).l i).f 0).s.toList == ((gD (b.f 4).l i).f 0).s.toList) from rfl]; simp only [e0,e1,e2,e3,Bool.true_and,Bool.false_and,Bool.and_false]
       rw [zAg hi e,Bool.false_and]
       repeat' (first
|apply zBH ([(1,[2]),(6,[3])]) ([(10,[6]),(11,[7]),(12,[6]),(13,[7])]) ([(10,6),(11,7)]) rfl (by kernel_rfl) (by kernel_rfl) (by kernel_rfl) (by intro p hp; simp only [List.mem_cons,List.not_mem_nil,or_false] at hp; rcases hp with rfl | rfl <;> (repeat' (first | exact fresh_S rfl | refine fresh_put ?_ rfl | refine fresh_res ?_ rfl rfl)))
|apply zEU
|apply zBn rfl rfl rfl rfl
 . conv => lhs; whnf; arg 1; whnf
 . rfl
 . rfl
 . kernel_rfl
|apply zET rfl
 . conv => lhs; whnf
 . conv => lhs; whnf; arg 2; whnf
 . kernel_rfl
|apply zBm rfl rfl rfl
 . conv => lhs; whnf
 . rfl
 . conv => lhs; whnf; arg 1; whnf
 . conv => lhs; whnf; arg 1; whnf
 . exact ⟨by kernel_rfl,by kernel_rfl⟩
 . rfl
 . kernel_rfl
|show inO _ _ = true; rfl
|apply zBI 7 (HzX7 a b i) rfl
|apply zG
 . conv => lhs; whnf
 . assumption
|refine zAP ?_
|refine zA ?_
|refine zI ?_
|refine zZ ?_
|apply aw_1
 conv => whnf
 refine ⟨?_,trivial⟩
|apply zl rfl rfl
 . conv => lhs; whnf
 . conv => lhs; whnf
 . first | exact bF1 ‹_› | exact bF2 ‹_›
|apply s_1
 conv => whnf; arg 1; arg 4; arg 3; whnf
 refine ⟨?_,?_⟩
|apply zQ rfl
 . conv => lhs; whnf
 . conv => lhs; whnf
 . first | rfl | assumption
 . conv => lhs; whnf; arg 2; whnf
|apply zP rfl
 . conv => lhs; whnf
 . conv => lhs; whnf
 . first | rfl | assumption
 . conv => lhs; whnf
 . first | exact h1 | exact h2 | exact h3
|refine zK ?_
|refine zH ?_
|refine zN ?_
|refine zB ?_
|refine ⟨_,by conv => lhs; whnf; arg 2; whnf,?_⟩; conv => rhs; whnf
|exact trivial)
       all_goals first
        | exact zu (by omega)
        | exact zx hi
        | exact zx hi2
        | exact Sub.live ⟨rfl,rfl,rfl,rfl,rfl,trivial⟩ ⟨rfl,rfl,rfl,rfl,trivial⟩
        | rfl
        | exact (show Tryd.prog.underlying _ = some .bool by kernel_rfl)
        | skip
     . obtain ⟨f0a,f0b,k0⟩:=b_t (t:=(!(((gD (a.f 4).l i).f 0).s.toList == ((gD (b.f 4).l i).f 0).s.toList))) e0 rfl
       rw [e1] at h1
       rw [e2] at h2
       rw [e3] at h3
       have e : fdEq7 (gD (a.f 4).l i) (gD (b.f 4).l i) = true:=by unfold fdEq7; rw [show sEq ((gD (a.f 4).l i).f 0) ((gD (b.f 4).l i).f 0) = (((gD (a.f 4).l i).f 0).s.toList == ((gD (b.f 4).l i).f 0).s.toList) from rfl]; simp only [e0,e1,e2,e3,Bool.true_and,Bool.false_and,Bool.and_false]; try rfl
       repeat' (first
|apply zBH ([(1,[2]),(6,[3])]) ([(10,[6]),(11,[7]),(12,[6]),(13,[7])]) ([(10,6),(11,7)]) rfl (by kernel_rfl) (by kernel_rfl) (by kernel_rfl) (by intro p hp; simp only [List.mem_cons,List.not_mem_nil,or_false] at hp; rcases hp with rfl | rfl <;> (repeat' (first | exact fresh_S rfl | refine fresh_put ?_ rfl | refine fresh_res ?_ rfl rfl)))
|apply zEU
|apply zBn rfl rfl rfl rfl
 . conv => lhs; whnf; arg 1; whnf
 . rfl
 . rfl
 . kernel_rfl
|apply zET rfl
 . conv => lhs; whnf
 . conv => lhs; whnf; arg 2; whnf
 . kernel_rfl
|apply zBm rfl rfl rfl
 . conv => lhs; whnf
 . rfl
 . conv => lhs; whnf; arg 1; whnf
 . conv => lhs; whnf; arg 1; whnf
 . exact ⟨by kernel_rfl,by kernel_rfl⟩
 . rfl
 . kernel_rfl
|show inO _ _ = true; rfl
|apply zBI 7 (HzX7 a b i) rfl
|apply zG
 . conv => lhs; whnf
 . assumption
|apply zF
 . conv => lhs; whnf
 . assumption
|refine zAP ?_
|refine zA ?_
|refine zI ?_
|refine zZ ?_
|refine zW ?_
|apply aw_1
 conv => whnf
 refine ⟨?_,trivial⟩
|apply zl rfl rfl
 . conv => lhs; whnf
 . conv => lhs; whnf
 . first | exact bF1 ‹_› | exact bF2 ‹_›
|apply s_1
 conv => whnf; arg 1; arg 4; arg 3; whnf
 refine ⟨?_,?_⟩
|apply zQ rfl
 . conv => lhs; whnf
 . conv => lhs; whnf
 . first | rfl | assumption
 . conv => lhs; whnf; arg 2; whnf
|apply zP rfl
 . conv => lhs; whnf
 . conv => lhs; whnf
 . first | rfl | assumption
 . conv => lhs; whnf
 . first | exact h1 | exact h2 | exact h3
|exact trivial)
       all_goals first
        | exact zu (by omega)
        | exact zx hi
        | exact zx hi2
        | exact Sub.live ⟨rfl,rfl,rfl,rfl,rfl,trivial⟩ ⟨rfl,rfl,rfl,rfl,trivial⟩
        | exact za (j':=j - 1) (by omega) ⟨i + 1,by omega,zB0 hall e,Sub.live ⟨rfl,rfl,rfl,trivial⟩ ⟨rfl,rfl,trivial⟩⟩
        | rfl
        | exact (show Tryd.prog.underlying _ = some .bool by kernel_rfl)
        | skip
   . have g1 : decide ((i : Int) < ((a.f 4).l.length : Nat)) = false:=decide_eq_false (by omega)
     rw [zA1 hl4 fun q hq => hall q (by omega),Bool.true_and]
     clear hall
     repeat' (first
|apply zF
 . conv => lhs; whnf
 . assumption
|refine zA ?_
|refine zI ?_
|refine zZ ?_
|apply aw_1
 conv => whnf
 refine ⟨?_,trivial⟩
|apply s_1
 conv => whnf; arg 1; arg 4; arg 3; whnf
 refine ⟨?_,?_⟩
|refine zJ ?_
|refine zE rfl ?_
|refine zC ?_
|exact trivial)
     clear g1 hi hij
     refine z7 (fun j st => ∃ i,i + j = (a.f 5).l.length /\ (∀ q,q < i -> mbEq7 (gD (a.f 5).l q) (gD (b.f 5).l q) = true) /\ Sub (cx EN Tryd.prog s w he) st (HzM7 a b i)) (a.f 5).l.length ⟨0,by omega,fun q hq => by omega,Sub.live ⟨rfl,rfl,rfl,trivial⟩ ⟨rfl,rfl,trivial⟩⟩ ?_
     rintro j st ⟨i,hij,hall,hs2⟩
     refine zAA hs2 ?_
     clear hs2
     by_cases hi : i < (a.f 5).l.length
     . have g1 : decide ((i : Int) < ((a.f 5).l.length : Nat)) = true:=decide_eq_true (by omega)
       have hi2 : i < (b.f 5).l.length:=by omega
       have bx:=zAZ hi (Nat.le_refl _)
       have by_:=zAZ hi2 (Nat.le_refl _)
       have h1:=zD0 ((gD (a.f 5).l i).f 1).l ((gD (b.f 5).l i).f 1).l (by have:=zr (gD (a.f 5).l i) 1; omega) (by have:=zr (gD (b.f 5).l i) 1; omega)
       have kT:=zHU
       have kF:=zHV
       have fT:=zDc
       rcases chain2 (((gD (a.f 5).l i).f 0).s.toList == ((gD (b.f 5).l i).f 0).s.toList) (eqL dirEq ((gD (a.f 5).l i).f 1).l ((gD (b.f 5).l i).f 1).l) with e0 | ⟨e0,e1⟩ | ⟨e0,e1⟩
       . obtain ⟨f0a,f0b,k0⟩:=b_f (t:=(!(((gD (a.f 5).l i).f 0).s.toList == ((gD (b.f 5).l i).f 0).s.toList))) e0 rfl
         have e : mbEq7 (gD (a.f 5).l i) (gD (b.f 5).l i) = false:=by unfold mbEq7; rw [show sEq ((gD (a.f 5).l i).f 0) ((gD (b.f 5).l i).f 0) = (((gD (a.f 5).l i).f 0).s.toList == ((gD (b.f 5).l i).f 0).s.toList) from rfl]; simp only [e0,Bool.true_and,Bool.false_and,Bool.and_false]
         rw [zAg hi e,Bool.and_false]
         repeat' (first
|apply zG
 . conv => lhs; whnf
 . assumption
|refine zA ?_
|refine zI ?_
|refine zZ ?_
|apply aw_1
 conv => whnf
 refine ⟨?_,trivial⟩
|apply s_1
 conv => whnf; arg 1; arg 4; arg 3; whnf
 refine ⟨?_,?_⟩
|apply zq (by kernel_rfl) (by kernel_rfl)
|apply zAR
|apply zAb rfl rfl
 . conv => lhs; whnf
 . conv => lhs; whnf
 . first | exact bT1 ‹_› | exact bT2 ‹_›
|apply zAQ rfl
 . conv => lhs; whnf
 . conv => lhs; whnf; arg 2; whnf
|apply zAt rfl
 . conv => lhs; whnf
 . conv => lhs; whnf
 . first | rfl | assumption
|exact zR
|exact zX
|exact ([] : List Nat)
|exact (1000000 : Nat)
|refine zK ?_
|refine zH ?_
|refine zN ?_
|refine zB ?_
|refine ⟨_,by conv => lhs; whnf; arg 2; whnf,?_⟩; conv => rhs; whnf
|exact trivial)
         all_goals first
          | exact zu (by omega)
          | exact zx hi
          | exact zx hi2
          | rfl
          | exact (show Tryd.prog.underlying _ = some .bool by kernel_rfl)
          | skip
       . obtain ⟨f0a,f0b,k0⟩:=b_t (t:=(!(((gD (a.f 5).l i).f 0).s.toList == ((gD (b.f 5).l i).f 0).s.toList))) e0 rfl
         rw [e1] at h1
         have e : mbEq7 (gD (a.f 5).l i) (gD (b.f 5).l i) = false:=by unfold mbEq7; rw [show sEq ((gD (a.f 5).l i).f 0) ((gD (b.f 5).l i).f 0) = (((gD (a.f 5).l i).f 0).s.toList == ((gD (b.f 5).l i).f 0).s.toList) from rfl]; simp only [e0,e1,Bool.true_and,Bool.false_and,Bool.and_false]
         rw [zAg hi e,Bool.and_false]
         repeat' (first
|apply zG
 . conv => lhs; whnf
 . assumption
|refine zA ?_
|refine zI ?_
|refine zZ ?_
|apply aw_1
 conv => whnf
 refine ⟨?_,trivial⟩
|apply s_1
 conv => whnf; arg 1; arg 4; arg 3; whnf
 refine ⟨?_,?_⟩
|apply zq (by kernel_rfl) (by kernel_rfl)
|apply zAR
|apply zAX rfl rfl
 . conv => lhs; whnf
 . conv => lhs; whnf
 . first | exact bF1 ‹_› | exact bF2 ‹_›
|apply zAQ rfl
 . conv => lhs; whnf
 . conv => lhs; whnf; arg 2; whnf
|apply zz rfl
 . conv => lhs; whnf
 . conv => lhs; whnf
 . first | rfl | assumption
 . conv => lhs; whnf; arg 2; whnf
|apply zw rfl
 . conv => lhs; whnf
 . conv => lhs; whnf
 . first | rfl | assumption
 . conv => lhs; whnf
 . first | exact h1
|exact zR
|exact zX
|exact ([] : List Nat)
|exact (1000000 : Nat)
|refine zK ?_
|refine zH ?_
|refine zN ?_
|refine zB ?_
|refine ⟨_,by conv => lhs; whnf; arg 2; whnf,?_⟩; conv => rhs; whnf
|exact trivial)
         all_goals first
          | exact zu (by omega)
          | exact zx hi
          | exact zx hi2
          | rfl
          | exact (show Tryd.prog.underlying _ = some .bool by kernel_rfl)
          | skip
       . obtain ⟨f0a,f0b,k0⟩:=b_t (t:=(!(((gD (a.f 5).l i).f 0).s.toList == ((gD (b.f 5).l i).f 0).s.toList))) e0 rfl
         rw [e1] at h1
         have e : mbEq7 (gD (a.f 5).l i) (gD (b.f 5).l i) = true:=by unfold mbEq7; rw [show sEq ((gD (a.f 5).l i).f 0) ((gD (b.f 5).l i).f 0) = (((gD (a.f 5).l i).f 0).s.toList == ((gD (b.f 5).l i).f 0).s.toList) from rfl]; simp only [e0,e1,Bool.true_and,Bool.false_and,Bool.and_false]; try rfl
         repeat' (first
|apply zG
 . conv => lhs; whnf
 . assumption
|apply zF
 . conv => lhs; whnf
 . assumption
|refine zA ?_
|refine zI ?_
|refine zZ ?_
|refine zW ?_
|apply aw_1
 conv => whnf
 refine ⟨?_,trivial⟩
|apply s_1
 conv => whnf; arg 1; arg 4; arg 3; whnf
 refine ⟨?_,?_⟩
|apply zq (by kernel_rfl) (by kernel_rfl)
|apply zAR
|apply zAX rfl rfl
 . conv => lhs; whnf
 . conv => lhs; whnf
 . first | exact bF1 ‹_› | exact bF2 ‹_›
|apply zAQ rfl
 . conv => lhs; whnf
 . conv => lhs; whnf; arg 2; whnf
|apply zz rfl
 . conv => lhs; whnf
 . conv => lhs; whnf
 . first | rfl | assumption
 . conv => lhs; whnf; arg 2; whnf
|apply zw rfl
 . conv => lhs; whnf
 . conv => lhs; whnf
 . first | rfl | assumption
 . conv => lhs; whnf
 . first | exact h1
|exact zR
|exact zX
|exact ([] : List Nat)
|exact (1000000 : Nat)
|exact trivial)
         all_goals first
          | exact zu (by omega)
          | exact zx hi
          | exact zx hi2
          | exact za (j':=j - 1) (by omega) ⟨i + 1,by omega,zB0 hall e,Sub.live ⟨rfl,rfl,rfl,trivial⟩ ⟨rfl,rfl,trivial⟩⟩
          | rfl
          | exact (show Tryd.prog.underlying _ = some .bool by kernel_rfl)
          | skip
     . have g1 : decide ((i : Int) < ((a.f 5).l.length : Nat)) = false:=decide_eq_false (by omega)
       rw [zA1 hl5 fun q hq => hall q (by omega),Bool.and_true]
       repeat' (first
|apply zF
 . conv => lhs; whnf
 . assumption
|refine zA ?_
|refine zI ?_
|refine zZ ?_
|apply aw_1
 conv => whnf
 refine ⟨?_,trivial⟩
|apply s_1
 conv => whnf; arg 1; arg 4; arg 3; whnf
 refine ⟨?_,?_⟩
|apply zk rfl
 . conv => lhs; whnf
 . conv => lhs; whnf
 . first | exact hz
|refine zJ ?_
|refine zE rfl ?_
|refine zC ?_
|refine zB ?_
|refine ⟨_,by conv => lhs; whnf; arg 2; whnf,?_⟩; conv => rhs; whnf
|exact trivial)
noncomputable def HzQ7 (a b : D) (i : Nat) : Vst 32:=stS 32 [(2,.bx 2 0),(3,.bx 3 0),(5,.c (.int .i64 (i : Int)))] [(2,.box 24 (cellsV Tryd.prog 12 24 a)),(3,.box 24 (cellsV Tryd.prog 12 24 b))]
theorem sameZ_ac (a b : D) (ha : bulkD a <= 100000000) (hb : bulkD b <= 100000000) : AC EN Tryd.prog 7 [.agg (cellsV Tryd.prog 12 24 a),.agg (cellsV Tryd.prog 12 24 b)] (.c (.bool (zDT a b))):=by
 have b0:=zr a 0
 have b0':=zr b 0
 have n0:=zAY (a.f 0).l
 unfold zDT
 by_cases hlen : (a.f 0).l.length = (b.f 0).l.length
 . have f0 : (((a.f 0).l.length : Int) != ((b.f 0).l.length : Int)) = false:=by simp [hlen]
   refine zV 32 Tryd.func7 rfl rfl rfl rfl ?_
   intro s w he
   repeat' (first
|apply zG
 . conv => lhs; whnf
 . assumption
|apply zF
 . conv => lhs; whnf
 . assumption
|refine ze ?_
|refine zY ?_
|refine zAP ?_
|refine zA ?_
|refine zI ?_
|refine zZ ?_
|refine zW ?_
|refine zi ?_
|apply aw_1
 conv => whnf
 refine ⟨?_,trivial⟩
|apply s_1
 conv => whnf; arg 1; arg 4; arg 3; whnf
 refine ⟨?_,?_⟩
|apply zAF rfl
 . conv => lhs; whnf
 . conv => lhs; whnf; arg 2; whnf
|apply zk rfl
 . conv => lhs; whnf
 . conv => lhs; whnf
 . first | fail
|apply zAO rfl rfl rfl rfl
 . conv => lhs; whnf; arg 1; whnf
 . rfl
|apply zq (by kernel_rfl) (by kernel_rfl)
|apply zAR
|apply zAQ rfl
 . conv => lhs; whnf
 . conv => lhs; whnf; arg 2; whnf
|apply zAU rfl
 . conv => lhs; whnf
 . conv => lhs; whnf
 . first | fail
|exact zR
|exact zX
|exact all_nil
|show List.all _ _ = true; rfl
|show zAC _ _ = true; rfl
|exact ([] : List Nat)
|exact (1000000 : Nat)
|apply zS
 . conv => lhs; whnf; arg 1; arg 1; whnf
|apply zU
 . conv => lhs; whnf; arg 1; arg 1; whnf
|refine zd (by conv => lhs; whnf) ?_ ?_ <;> intro hb
|refine zv ?_
|refine zh ?_
|refine zJ ?_
|refine zK ?_
|refine zH ?_
|refine zE rfl ?_
|refine zM rfl ?_
|refine zL ?_
|refine zO ?_
|refine zC ?_
|refine zN ?_
|refine zAG ?_
|refine zB ?_
|refine ⟨_,by conv => lhs; whnf; arg 2; whnf,?_⟩; conv => rhs; whnf
|exact trivial
|intro hg)
   refine z7 (fun j st => ∃ i,i + j = (a.f 0).l.length /\ (∀ q,q < i -> dfEq7 (gD (a.f 0).l q) (gD (b.f 0).l q) = true) /\ Sub (cx EN Tryd.prog s w he) st (HzQ7 a b i)) (a.f 0).l.length ⟨0,by omega,fun q hq => by omega,Sub.live ⟨rfl,rfl,rfl,trivial⟩ ⟨rfl,rfl,trivial⟩⟩ ?_
   rintro j st ⟨i,hij,hall,hs2⟩
   refine zAA hs2 ?_
   clear hs2
   by_cases hi : i < (a.f 0).l.length
   . have f1 : decide ((i : Int) < ((a.f 0).l.length : Nat)) = true:=decide_eq_true (by omega)
     have hi2 : i < (b.f 0).l.length:=by omega
     have bx:=zAZ hi (Nat.le_refl _)
     have by_:=zAZ hi2 (Nat.le_refl _)
     have h1:=defZ_ac (gD (a.f 0).l i) (gD (b.f 0).l i) (by omega) (by omega)
     have fT:=zDc
     have fF : (!false) = true:=rfl
     cases e : dfEq7 (gD (a.f 0).l i) (gD (b.f 0).l i) with
     | true =>
       rw [e] at h1
       repeat' (first
|apply zG
 . conv => lhs; whnf
 . assumption
|apply zF
 . conv => lhs; whnf
 . assumption
|refine ze ?_
|refine zY ?_
|refine zAP ?_
|refine zA ?_
|refine zI ?_
|refine zZ ?_
|refine zW ?_
|refine zi ?_
|apply aw_1
 conv => whnf
 refine ⟨?_,trivial⟩
|apply s_1
 conv => whnf; arg 1; arg 4; arg 3; whnf
 refine ⟨?_,?_⟩
|apply zAF rfl
 . conv => lhs; whnf
 . conv => lhs; whnf; arg 2; whnf
|apply zk rfl
 . conv => lhs; whnf
 . conv => lhs; whnf
 . first | exact h1
|apply zAO rfl rfl rfl rfl
 . conv => lhs; whnf; arg 1; whnf
 . rfl
|apply zq (by kernel_rfl) (by kernel_rfl)
|apply zAR
|apply zAQ rfl
 . conv => lhs; whnf
 . conv => lhs; whnf; arg 2; whnf
|apply zAU rfl
 . conv => lhs; whnf
 . conv => lhs; whnf
 . first | exact h1
|exact zR
|exact zX
|exact all_nil
|show List.all _ _ = true; rfl
|show zAC _ _ = true; rfl
|exact ([] : List Nat)
|exact (1000000 : Nat)
|apply zS
 . conv => lhs; whnf; arg 1; arg 1; whnf
|apply zU
 . conv => lhs; whnf; arg 1; arg 1; whnf
|refine zd (by conv => lhs; whnf) ?_ ?_ <;> intro hb
|refine zv ?_
|refine zh ?_
|refine zJ ?_
|refine zK ?_
|refine zH ?_
|refine zE rfl ?_
|refine zM rfl ?_
|refine zL ?_
|refine zO ?_
|refine zC ?_
|refine zN ?_
|refine zAG ?_
|refine zB ?_
|refine ⟨_,by conv => lhs; whnf; arg 2; whnf,?_⟩; conv => rhs; whnf
|exact trivial
|intro hg)
       all_goals first
        | exact zu (by omega)
        | exact zx hi
        | exact zx hi2
        | exact za (j':=j - 1) (by omega) ⟨i + 1,by omega,zB0 hall e,Sub.live ⟨rfl,rfl,rfl,trivial⟩ ⟨rfl,rfl,trivial⟩⟩
        | skip
     | false =>
       rw [e] at h1
       rw [zAg hi e]
       repeat' (first
|apply zG
 . conv => lhs; whnf
 . assumption
|apply zF
 . conv => lhs; whnf
 . assumption
|refine ze ?_
|refine zY ?_
|refine zAP ?_
|refine zA ?_
|refine zI ?_
|refine zZ ?_
|refine zW ?_
|refine zi ?_
|apply aw_1
 conv => whnf
 refine ⟨?_,trivial⟩
|apply s_1
 conv => whnf; arg 1; arg 4; arg 3; whnf
 refine ⟨?_,?_⟩
|apply zAF rfl
 . conv => lhs; whnf
 . conv => lhs; whnf; arg 2; whnf
|apply zk rfl
 . conv => lhs; whnf
 . conv => lhs; whnf
 . first | exact h1
|apply zAO rfl rfl rfl rfl
 . conv => lhs; whnf; arg 1; whnf
 . rfl
|apply zq (by kernel_rfl) (by kernel_rfl)
|apply zAR
|apply zAQ rfl
 . conv => lhs; whnf
 . conv => lhs; whnf; arg 2; whnf
|apply zAU rfl
 . conv => lhs; whnf
 . conv => lhs; whnf
 . first | exact h1
|exact zR
|exact zX
|exact all_nil
|show List.all _ _ = true; rfl
|show zAC _ _ = true; rfl
|exact ([] : List Nat)
|exact (1000000 : Nat)
|apply zS
 . conv => lhs; whnf; arg 1; arg 1; whnf
|apply zU
 . conv => lhs; whnf; arg 1; arg 1; whnf
|refine zd (by conv => lhs; whnf) ?_ ?_ <;> intro hb
|refine zv ?_
|refine zh ?_
|refine zJ ?_
|refine zK ?_
|refine zH ?_
|refine zE rfl ?_
|refine zM rfl ?_
|refine zL ?_
|refine zO ?_
|refine zC ?_
|refine zN ?_
|refine zAG ?_
|refine zB ?_
|refine ⟨_,by conv => lhs; whnf; arg 2; whnf,?_⟩; conv => rhs; whnf
|exact trivial
|intro hg)
       all_goals first
        | exact zx hi
        | exact zx hi2
        | skip
   . have f1 : decide ((i : Int) < ((a.f 0).l.length : Nat)) = false:=decide_eq_false (by omega)
     rw [zA1 hlen fun q hq => hall q (by omega)]
     repeat' (first
|apply zG
 . conv => lhs; whnf
 . assumption
|apply zF
 . conv => lhs; whnf
 . assumption
|refine ze ?_
|refine zY ?_
|refine zAP ?_
|refine zA ?_
|refine zI ?_
|refine zZ ?_
|refine zW ?_
|refine zi ?_
|apply aw_1
 conv => whnf
 refine ⟨?_,trivial⟩
|apply s_1
 conv => whnf; arg 1; arg 4; arg 3; whnf
 refine ⟨?_,?_⟩
|apply zAF rfl
 . conv => lhs; whnf
 . conv => lhs; whnf; arg 2; whnf
|apply zk rfl
 . conv => lhs; whnf
 . conv => lhs; whnf
 . first | fail
|apply zAO rfl rfl rfl rfl
 . conv => lhs; whnf; arg 1; whnf
 . rfl
|apply zq (by kernel_rfl) (by kernel_rfl)
|apply zAR
|apply zAQ rfl
 . conv => lhs; whnf
 . conv => lhs; whnf; arg 2; whnf
|apply zAU rfl
 . conv => lhs; whnf
 . conv => lhs; whnf
 . first | fail
|exact zR
|exact zX
|exact all_nil
|show List.all _ _ = true; rfl
|show zAC _ _ = true; rfl
|exact ([] : List Nat)
|exact (1000000 : Nat)
|apply zS
 . conv => lhs; whnf; arg 1; arg 1; whnf
|apply zU
 . conv => lhs; whnf; arg 1; arg 1; whnf
|refine zd (by conv => lhs; whnf) ?_ ?_ <;> intro hb
|refine zv ?_
|refine zh ?_
|refine zJ ?_
|refine zK ?_
|refine zH ?_
|refine zE rfl ?_
|refine zM rfl ?_
|refine zL ?_
|refine zO ?_
|refine zC ?_
|refine zN ?_
|refine zAG ?_
|refine zB ?_
|refine ⟨_,by conv => lhs; whnf; arg 2; whnf,?_⟩; conv => rhs; whnf
|exact trivial
|intro hg)
 . have f0 : (((a.f 0).l.length : Int) != ((b.f 0).l.length : Int)) = true:=by simp; omega
   rw [zBd f0]
   refine zV 32 Tryd.func7 rfl rfl rfl rfl ?_
   intro s w he
   repeat' (first
|apply zG
 . conv => lhs; whnf
 . assumption
|apply zF
 . conv => lhs; whnf
 . assumption
|refine ze ?_
|refine zY ?_
|refine zAP ?_
|refine zA ?_
|refine zI ?_
|refine zZ ?_
|refine zW ?_
|refine zi ?_
|apply aw_1
 conv => whnf
 refine ⟨?_,trivial⟩
|apply s_1
 conv => whnf; arg 1; arg 4; arg 3; whnf
 refine ⟨?_,?_⟩
|apply zAF rfl
 . conv => lhs; whnf
 . conv => lhs; whnf; arg 2; whnf
|apply zk rfl
 . conv => lhs; whnf
 . conv => lhs; whnf
 . first | fail
|apply zAO rfl rfl rfl rfl
 . conv => lhs; whnf; arg 1; whnf
 . rfl
|apply zq (by kernel_rfl) (by kernel_rfl)
|apply zAR
|apply zAQ rfl
 . conv => lhs; whnf
 . conv => lhs; whnf; arg 2; whnf
|apply zAU rfl
 . conv => lhs; whnf
 . conv => lhs; whnf
 . first | fail
|exact zR
|exact zX
|exact all_nil
|show List.all _ _ = true; rfl
|show zAC _ _ = true; rfl
|exact ([] : List Nat)
|exact (1000000 : Nat)
|apply zS
 . conv => lhs; whnf; arg 1; arg 1; whnf
|apply zU
 . conv => lhs; whnf; arg 1; arg 1; whnf
|refine zd (by conv => lhs; whnf) ?_ ?_ <;> intro hb
|refine zv ?_
|refine zh ?_
|refine zJ ?_
|refine zK ?_
|refine zH ?_
|refine zE rfl ?_
|refine zM rfl ?_
|refine zL ?_
|refine zO ?_
|refine zC ?_
|refine zN ?_
|refine zAG ?_
|refine zB ?_
|refine ⟨_,by conv => lhs; whnf; arg 2; whnf,?_⟩; conv => rhs; whnf
|exact trivial
|intro hg)
end Go.Proofs.YtdlnnlglmifceaaDoor
namespace Go.Proofs.YtdlnnlglmifceaaDoor
def inB6 (K : Nat) (x : D) : List UInt8:=tx (x.f 0).s ++ [58,32] ++ refB (tx ((x.f 1).f 0).s) ((x.f 1).f 1).l ++ (if (x.f 2).b = true then [32,61,32] ++ valT K (x.f 3) else []) ++ zAr K (x.f 4).l
def zHM (K : Nat) (l : List D) : List UInt8:=Lib.join (l.map (inB6 K)) [44,32]
def fdT6 (K : Nat) (x : D) : List UInt8:=tx (x.f 0).s ++ (if (x.f 1).l.length = 0 then [] else [40] ++ zHM K (x.f 1).l ++ [41]) ++ [58,32] ++ refB (tx ((x.f 2).f 0).s) ((x.f 2).f 1).l ++ zAr K (x.f 3).l
def mbT6 (K : Nat) (x : D) : List UInt8:=tx (x.f 0).s ++ zAr K (x.f 1).l
def lnF (f : D -> List UInt8) (l : List D) (i : Nat) : List UInt8:=[32,32] ++ f (gD l i) ++ [10]
def zFE (f : D -> List UInt8) (l : List D) : List UInt8:=flatN (lnF f l) l.length
def fcT6 (d : D) : List UInt8:=if (d.f 0).n = 1 /\ 0 < (d.f 2).l.length then [32] ++ zF2 ++ [32] ++ Lib.join ((d.f 2).l.map fun x => tx x.s) [32,38,32] else []
def hdS (d : D) : List UInt8:=zBr (d.f 0).n ++ [32] ++ tx (d.f 1).s ++ fcT6 d
def zCL (K : Nat) (d : D) : List UInt8:=if (d.f 0).n = 5 then zFE (inB6 K) (d.f 6).l else if (d.f 0).n = 4 then zFE (mbT6 K) (d.f 5).l else zFE (fdT6 K) (d.f 4).l
def dfT (K : Nat) (d : D) : List UInt8:=
 if (d.f 0).n = 3 then zBr 3 ++ [32] ++ tx (d.f 1).s ++ zAr K (d.f 3).l ++ [32,61,32] ++ Lib.join ((d.f 5).l.map fun x => tx (x.f 0).s) [32,124,32] ++ [10]
 else hdS d ++ zAr K (d.f 3).l ++ [32,123,10] ++ zCL K d ++ [125,10]
def sdlT (K : Nat) (l : List D) : List UInt8:=Lib.join (l.map (dfT K)) [10]
theorem argsR_of {l : List D} (hl : l.length <= 16) (h : ∀ i,i < l.length -> ArgP (gD l i)) : zEn l = true:=by
 unfold zEn
 rw [Bool.and_eq_true,Bool.not_eq_true',decide_eq_true_eq]
 refine ⟨hl,?_⟩
 rw [List.any_eq_false]
 intro x hx
 obtain ⟨i,hi,rfl⟩:=List.getElem_of_mem hx
 have:=h i hi
 rw [zBo hi] at this
 unfold argR
 rw [this.name,this.val.lit]; decide
theorem zF6 {l : List D} (h : DirsP l) : zF7 l = true:=by
 unfold zF7
 rw [Bool.and_eq_true,Bool.not_eq_true',decide_eq_true_eq]
 refine ⟨h.len,?_⟩
 rw [List.any_eq_false]
 intro x hx
 obtain ⟨i,hi,rfl⟩:=List.getElem_of_mem hx
 have:=h.dirs i hi
 rw [zBo hi] at this
 unfold dirR
 rw [this.name,argsR_of this.len this.args]; decide
theorem Psp.gp {sep : List UInt8} (h : Gap sep) : Psp sep []:=⟨h.1.w,h.2.2⟩
theorem zH6 (f : Nat -> List UInt8) (a b : List UInt8) : ∀ n,a ++ Lib.join ((List.range (n + 1)).map f) b = flatN (fun i => (if i = 0 then a else b) ++ f i) (n + 1)
 | 0 => by
   show a ++ Lib.join [f 0] b = [] ++ ((if 0 = 0 then a else b) ++ f 0)
   rw [Lib.join_one]; simp
 | n + 1 => by
   have ih:=zH6 f a b n
   rw [List.range_succ,List.map_append,List.map_singleton,zH7 _ _ _ (fun e => by have:=congrArg List.length e; simp at this)]
   show _ = flatN (fun i => (if i = 0 then a else b) ++ f i) (n + 1) ++ ((if n + 1 = 0 then a else b) ++ f (n + 1))
   rw [<- ih,if_neg (Nat.succ_ne_zero n)]
   simp
theorem zGN (a b : List UInt8) (nm : D -> D) {l : List D} (h : l ≠ []) : a ++ Lib.join (l.map fun x => tx (nm x).s) b = sepS a b nm l:=by
 obtain ⟨n,hn⟩ : ∃ n,l.length = n + 1:=⟨l.length - 1,by cases l with | nil => exact absurd rfl h | cons x r => simp⟩
 rw [zEM,hn,zH6]
 unfold sepS
 rw [hn]
section
variable {K : Nat} (hK : 1048576 <= K)
include hK
theorem zDv {l : List D} (h : DirsP l) (hw : ∀ i,wideD (gD l i)) (hb : bulkL l <= 1048576) : Psp (zAr K l) (rgK dirK l):=
 ⟨tailT_pw (zF6 h) (zGs hK (zF6 h) hw hb),tailT_bnd K l⟩
theorem inB6_pw {x : D} (h : InP x) (hw : wideD x) (hb : bulkD x <= 1048576) : Pw (inB6 K x) (inK x):=by
 have w:=zy x
 have b3:=wD_f x 3
 have w3:=zy (x.f 3)
 have b4:=wD_f x 4
 have w4:=zAE (x.f 4)
 have h1:=zIR h.name (zHB h.rname ((x.f 1).f 1).l)
 have h2 : Psp (if (x.f 2).b = true then [32,61,32] ++ valT K (x.f 3) else []) (if (x.f 2).b = true then (1,[61]) :: litK (x.f 3) else []):=by
  split
  . exact (Psp.sg (c:=61) rfl).app (Psp.sp (litT_pw (zBS K _ (by omega)) (hw.f 3) h.val.lit))
  . exact .nil
 have h3:=(h1.spp h2).spp (zDv hK h.dirs (hw.f 4).l (by omega))
 have e2 : inK x = (((2,tx (x.f 0).s) :: (1,[58]) :: refK (tx ((x.f 1).f 0).s) ((x.f 1).f 1).l) ++ (if (x.f 2).b = true then (1,[61]) :: litK (x.f 3) else [])) ++ rgK dirK (x.f 4).l:=by simp [inK]
 rw [e2]; exact h3
theorem insB6_pw {l : List D} (h : InsP l) (hw : ∀ i,wideD (gD l i)) (hb : bulkL l <= 1048576) : Pw (zHM K l) (rgK inK l):=
 Pw.joinL .comma l fun i hi => inB6_pw hK (h.ins i hi) (hw i) (by have:=zAa hi; omega)
theorem fdT_pw {x : D} (h : FdP x) (hw : wideD x) (hb : bulkD x <= 1048576) : Pw (fdT6 K x) (fdK x):=by
 have w:=zy x
 have b1:=wD_f x 1
 have w1:=zAE (x.f 1)
 have b3:=wD_f x 3
 have w3:=zAE (x.f 3)
 have h2 : Psp (if (x.f 1).l.length = 0 then [] else [40] ++ zHM K (x.f 1).l ++ [41]) (insK (x.f 1).l inK):=by
  unfold insK
  by_cases h0 : (x.f 1).l.length = 0
  . rw [if_pos h0,if_pos h0]; exact .nil
  . rw [if_neg h0,if_neg h0]
    exact ⟨(Ps.wrap rfl rfl (insB6_pw hK h.args (hw.f 1).l (by omega))).w,zAz (by decide)⟩
 have h3 : Psp ([58,32] ++ refB (tx ((x.f 2).f 0).s) ((x.f 2).f 1).l) ((1,[58]) :: refK (tx ((x.f 2).f 0).s) ((x.f 2).f 1).l):=
  ⟨((Ps.sign (c:=58) rfl).app (Ps.sep (c:=32) rfl)).appw (zHB h.rname ((x.f 2).f 1).l),zAz (by decide)⟩
 have h4:=(((Pw.nm h.name).spp h2).spp h3).spp (zDv hK h.dirs (hw.f 3).l (by omega))
 have e1 : fdT6 K x = ((tx (x.f 0).s ++ (if (x.f 1).l.length = 0 then [] else [40] ++ zHM K (x.f 1).l ++ [41])) ++ ([58,32] ++ refB (tx ((x.f 2).f 0).s) ((x.f 2).f 1).l)) ++ zAr K (x.f 3).l:=by simp [fdT6]
 have e2 : fdK x = (([(2,tx (x.f 0).s)] ++ insK (x.f 1).l inK) ++ ((1,[58]) :: refK (tx ((x.f 2).f 0).s) ((x.f 2).f 1).l)) ++ rgK dirK (x.f 3).l:=by simp [fdK]
 rw [e1,e2]; exact h4
theorem mbT_pw {u : Bool} {x : D} (h : MbP u x) (hw : wideD x) (hb : bulkD x <= 1048576) : Pw (mbT6 K x) (mbK x):=by
 have w:=zy x
 have b1:=wD_f x 1
 have w1:=zAE (x.f 1)
 exact (Pw.nm h.name).spp (zDv hK h.dirs (hw.f 1).l (by omega))
omit hK in
theorem zEO {f : D -> List UInt8} {g : D -> KS} (l : List D) (h : ∀ i,i < l.length -> Pw (f (gD l i)) (g (gD l i))) : Psp (zFE f l) (rgK g l):=Psp.flat _ fun i hi => by
 have h1:=(Psp.sp (Psp.sp (h i hi)).pw).app (Psp.gp .line)
 rw [List.append_nil] at h1
 exact h1
omit hK in
theorem fcT6_sp {d : D} (h : DefP d) : Psp (fcT6 d) (zBc (d.f 2).l):=by
 unfold fcT6
 by_cases h0 : (d.f 2).l.length = 0
 . rw [if_neg (by omega)]
   unfold zBc
   rw [if_pos h0]
   exact .nil
 . have h1:=h.im0.resolve_left h0
   rw [if_pos ⟨h1,by omega⟩]
   have h2:=facesS_sp (d.f 2).l h.im
   unfold facesS at h2
   rw [<- zGN _ _ id (fun e => h0 (by rw [e]; rfl))] at h2
   exact h2
theorem dfT_pw {d : D} (h : DefP d) (hw : wideD d) (hb : bulkD d <= 1048576) : Pw (dfT K d) (zDp d):=by
 have w:=zy d
 have b3:=wD_f d 3; have w3:=zAE (d.f 3)
 have b4:=wD_f d 4; have w4:=zAE (d.f 4)
 have b5:=wD_f d 5; have w5:=zAE (d.f 5)
 have b6:=wD_f d 6; have w6:=zAE (d.f 6)
 have ht:=zDv hK h.dirs (hw.f 3).l (by omega)
 have h1:=(Pw.name (word_nameD (k:=(d.f 0).n))).spp (Psp.sp (Pw.nm h.name))
 have ek : zDp d = [(2,zBr (d.f 0).n)] ++ [(2,tx (d.f 1).s)] ++ zBc (d.f 2).l ++ rgK dirK (d.f 3).l ++ bodyK d:=by simp [zDp]
 rw [ek]
 unfold dfT
 by_cases h3 : (d.f 0).n = 3
 . rw [if_pos h3]
   have hm:=h.m0.1 (.inl h3)
   have hne : (d.f 5).l ≠ []:=fun e => by rw [e] at hm; exact absurd hm (by decide)
   have hu:=unionS_sp _ hne fun i hi => (h.mbs i hi).name
   unfold unionS at hu
   rw [<- zGN _ _ (fun x => x.f 0) hne] at hu
   have hf : zBc (d.f 2).l = []:=by
    unfold zBc
    rw [if_pos (h.im0.resolve_right (by omega))]
   have h2:=((h1.spp ht).spp hu).spp (Psp.gp .line)
   rw [h3] at h2
   unfold bodyK
   rw [if_pos h3,hf,h3]
   have e1 : (zBr 3 ++ [32] ++ tx (d.f 1).s ++ zAr K (d.f 3).l ++ [32,61,32] ++ Lib.join ((d.f 5).l.map fun x => tx (x.f 0).s) [32,124,32] ++ [10] : List UInt8) = zBr 3 ++ (32 :: tx (d.f 1).s) ++ zAr K (d.f 3).l ++ ([32,61,32] ++ Lib.join ((d.f 5).l.map fun x => tx (x.f 0).s) [32,124,32]) ++ [10]:=by simp
   rw [e1]
   have e2 : ([(2,zBr 3)] ++ [(2,tx (d.f 1).s)] ++ [] ++ rgK dirK (d.f 3).l ++ ((1,[61]) :: sepK [124] ((d.f 5).l.map fun x => x.f 0)) : KS) = [(2,zBr 3)] ++ [(2,tx (d.f 1).s)] ++ rgK dirK (d.f 3).l ++ ((1,[61]) :: sepK [124] ((d.f 5).l.map fun x => x.f 0)) ++ []:=by simp
   rw [e2]
   exact h2
 . rw [if_neg h3]
   have hbd : Psp (zCL K d) (if (d.f 0).n = 5 then rgK inK (d.f 6).l else if (d.f 0).n = 4 then rgK mbK (d.f 5).l else rgK fdK (d.f 4).l):=by
    unfold zCL
    by_cases h5 : (d.f 0).n = 5
    . rw [if_pos h5,if_pos h5]
      exact zEO _ fun i hi => inB6_pw hK (h.ins.ins i hi) ((hw.f 6).l i) (by have:=zAa hi; omega)
    rw [if_neg h5,if_neg h5]
    by_cases h4 : (d.f 0).n = 4
    . rw [if_pos h4,if_pos h4]
      exact zEO _ fun i hi => mbT_pw hK (h.mbs i hi) ((hw.f 5).l i) (by have:=zAa hi; omega)
    rw [if_neg h4,if_neg h4]
    exact zEO _ fun i hi => fdT_pw hK (h.fds i hi) ((hw.f 4).l i) (by have:=zAa hi; omega)
   have hop : Psp [32,123,10] [(1,[123])]:=by
    have:=(Psp.sg (c:=123) rfl).app (Psp.gp .line)
    exact this
   have hcl : Psp [125,10] [(1,[125])]:=by
    have:=(⟨(Ps.sign (c:=125) rfl).w,zAz (by decide)⟩ : Psp [125] [(1,[125])]).app (Psp.gp .line)
    exact this
   have h2:=((((h1.spp (fcT6_sp h)).spp ht).spp hop).spp hbd).spp hcl
   unfold bodyK blkK
   rw [if_neg h3]
   have e1 : hdS d ++ zAr K (d.f 3).l ++ [32,123,10] ++ zCL K d ++ [125,10] = zBr (d.f 0).n ++ (32 :: tx (d.f 1).s) ++ fcT6 d ++ zAr K (d.f 3).l ++ [32,123,10] ++ zCL K d ++ [125,10]:=by simp [hdS]
   rw [e1]
   generalize (if (d.f 0).n = 5 then rgK inK (d.f 6).l else if (d.f 0).n = 4 then rgK mbK (d.f 5).l else rgK fdK (d.f 4).l) = k at h2 |-
   have e2 : ([(2,zBr (d.f 0).n)] ++ [(2,tx (d.f 1).s)] ++ zBc (d.f 2).l ++ rgK dirK (d.f 3).l ++ ((1,[123]) :: (k ++ [(1,[125])])) : KS) = [(2,zBr (d.f 0).n)] ++ [(2,tx (d.f 1).s)] ++ zBc (d.f 2).l ++ rgK dirK (d.f 3).l ++ [(1,[123])] ++ k ++ [(1,[125])]:=by simp
   rw [e2]
   exact h2
end
theorem zA8 (K : Nat) (l : List D) (h : ∀ i,wideD (gD l i)) : (zAr K l).length <= 1 + 32 * bulkL l:=by
 have:=zEd K l h
 unfold zAr
 split
 . exact Nat.zero_le _
 . simp only [List.length_append,List.length_cons,List.length_nil]; omega
theorem zIB (K : Nat) (x : D) (hw : wideD x) : (inB6 K x).length + 3 <= 40 * bulkD x:=by
 have w:=zy x
 have wf:=zAd x 5
 simp only [sumN] at wf
 have h0:=zAv (x.f 0); have t0:=zBL (x.f 0).s
 have h1 : (refB (tx ((x.f 1).f 0).s) ((x.f 1).f 1).l).length <= 2 * wD (x.f 1):=zHr (x.f 1)
 have h3:=zBT K (x.f 3) (hw.f 3)
 have w3:=zy (x.f 3)
 have h4:=zA8 K (x.f 4).l (hw.f 4).l
 have w4:=zAE (x.f 4)
 unfold inB6
 split
 . simp only [List.length_append,List.length_cons,List.length_nil]; omega
 . simp only [List.length_append,List.length_cons,List.length_nil]; omega
theorem zGh (K : Nat) (l : List D) (h : ∀ i,wideD (gD l i)) : (zHM K l).length <= 40 * bulkL l:=zBQ l _ _ _ fun i _ => by
 have:=zIB K _ (h i); simp only [List.length_cons,List.length_nil]; omega
theorem fdT_len (K : Nat) (x : D) (hw : wideD x) : (fdT6 K x).length + 3 <= 48 * bulkD x:=by
 have w:=zy x
 have wf:=zAd x 4
 simp only [sumN] at wf
 have h0:=zAv (x.f 0); have t0:=zBL (x.f 0).s
 have h1:=zGh K (x.f 1).l (hw.f 1).l
 have w1:=zAE (x.f 1)
 have h2 : (refB (tx ((x.f 2).f 0).s) ((x.f 2).f 1).l).length <= 2 * wD (x.f 2):=zHr (x.f 2)
 have h3:=zA8 K (x.f 3).l (hw.f 3).l
 have w3:=zAE (x.f 3)
 unfold fdT6
 split
 . simp only [List.length_append,List.length_cons,List.length_nil]; omega
 . simp only [List.length_append,List.length_cons,List.length_nil]; omega
theorem mbT_len (K : Nat) (x : D) (hw : wideD x) : (mbT6 K x).length + 3 <= 48 * bulkD x:=by
 have w:=zy x
 have wf:=zAd x 2
 simp only [sumN] at wf
 have h0:=zAv (x.f 0); have t0:=zBL (x.f 0).s
 have h1:=zA8 K (x.f 1).l (hw.f 1).l
 have w1:=zAE (x.f 1)
 unfold mbT6
 simp only [List.length_append]; omega
theorem zDa {f : D -> List UInt8} (l : List D) (h : ∀ i,i < l.length -> (f (gD l i)).length + 3 <= 48 * bulkD (gD l i)) : (zFE f l).length <= 48 * bulkL l:=by
 unfold zFE
 rw [zDJ,zAy,<- zBU]
 refine zCQ fun i hi => ?_
 have:=h i hi
 unfold lnF
 simp only [List.length_append,List.length_cons,List.length_nil]; omega
theorem zIJ (d : D) : (fcT6 d).length <= 12 + 4 * bulkL (d.f 2).l:=by
 unfold fcT6
 split
 . have : (Lib.join ((d.f 2).l.map fun x => tx x.s) [32,38,32]).length <= 4 * bulkL (d.f 2).l:=zBQ _ _ _ _ fun i _ => by
    have:=zAv (gD (d.f 2).l i); have:=zy (gD (d.f 2).l i); have:=zBL (gD (d.f 2).l i).s
    simp only [List.length_cons,List.length_nil]; omega
   simp only [List.length_append,zF2,List.length_cons,List.length_nil]; omega
 . exact Nat.zero_le _
theorem zEz (k : Int) : (zBr k).length <= 9:=by
 unfold zBr
 repeat' split
 all_goals decide
theorem zEB (l : List D) : (Lib.join (l.map fun x => tx (x.f 0).s) [32,124,32]).length <= 4 * bulkL l:=zBQ _ _ _ _ fun i _ => by
 have:=zAv ((gD l i).f 0); have:=zy (gD l i); have:=wD_f (gD l i) 0; have:=zBL ((gD l i).f 0).s
 simp only [List.length_cons,List.length_nil]; omega
theorem dfT_len (K : Nat) (d : D) (hw : wideD d) : (dfT K d).length + 1 <= 60 * bulkD d:=by
 have w:=zy d
 have wf:=zAd d 7
 simp only [sumN] at wf
 have h1:=zAv (d.f 1); have t1:=zBL (d.f 1).s
 have h2:=zIJ d
 have w2:=zAE (d.f 2)
 have h3:=zA8 K (d.f 3).l (hw.f 3).l
 have w3:=zAE (d.f 3)
 have h4:=zDa (f:=fdT6 K) (d.f 4).l fun i _ => fdT_len K _ ((hw.f 4).l i)
 have w4:=zAE (d.f 4)
 have h5:=zDa (f:=mbT6 K) (d.f 5).l fun i _ => mbT_len K _ ((hw.f 5).l i)
 have w5:=zAE (d.f 5)
 have h6:=zDa (f:=inB6 K) (d.f 6).l fun i _ => by have:=zIB K _ ((hw.f 6).l i); omega
 have w6:=zAE (d.f 6)
 have hu:=zEB (d.f 5).l
 have hk:=zEz (d.f 0).n
 have hk3:=zEz 3
 have hb : (zCL K d).length <= 48 * bulkL (d.f 4).l + 48 * bulkL (d.f 5).l + 48 * bulkL (d.f 6).l:=by
  unfold zCL
  split
  . omega
  split <;> omega
 unfold dfT
 split
 . simp only [List.length_append,List.length_cons,List.length_nil]; omega
 . simp only [hdS,List.length_append,List.length_cons,List.length_nil]; omega
theorem sdlT_len (K : Nat) (l : List D) (h : ∀ i,wideD (gD l i)) : (sdlT K l).length <= 60 * bulkL l:=zBQ l _ _ _ fun i _ => by
 have:=dfT_len K _ (h i); simp only [List.length_cons,List.length_nil]; omega
end Go.Proofs.YtdlnnlglmifceaaDoor
namespace Go.Proofs.YtdlnnlglmifceaaDoor
open Go.RowKit
theorem zHp {K : Nat} (hK : 1048576 <= K) {l : List D} (hY : docY litR l = true) (hw : ∀ i,wideD (gD l i)) (hb : bulkL l <= 1048576) : Lex (sdlT K l) (sdocK l):=by
 unfold docY at hY
 simp only [Bool.and_eq_true,decide_eq_true_eq] at hY
 exact (Pw.joinL (f:=dfT K) (g:=zDp) .line l fun i hi => dfT_pw hK (defP (zDo hY.2 i hi)) (hw i) (by have:=zAa hi; omega)).lex
theorem sdlT_inj {K j1 j2 : Nat} (hK : 1048576 <= K) {a b : D} (ha : docY litR (a.f 0).l = true) (hb : docY litR (b.f 0).l = true) (wa : wideD a) (wb : wideD b) (ba : bulkD a <= 1048576) (bb : bulkD b <= 1048576)
 (fa : Fits Tryd.prog j1 24 a) (fb : Fits Tryd.prog j2 24 b) (e : sdlT K (a.f 0).l = sdlT K (b.f 0).l) : a = b:=by
 have la:=zHp hK ha (wa.f 0).l (bk_l (bk_f ba 0))
 have lb:=zHp hK hb (wb.f 0).l (bk_l (bk_f bb 0))
 obtain ⟨ts,h1,h2⟩:=la.scan ((sdlT K (a.f 0).l).length + 1) 0 (by omega)
 rw [<- e] at lb
 obtain ⟨ts',h3,h4⟩:=lb.scan ((sdlT K (a.f 0).l).length + 1) 0 (by omega)
 rw [h1] at h3
 cases h3
 have hk:=h2.symm.trans h4
 obtain ⟨n1,n2,pa⟩:=docP ha
 obtain ⟨m1,m2,pb⟩:=docP hb
 obtain ⟨z1,w1⟩:=zHo n2 (by omega) pa (wa.f 0).l
 obtain ⟨z2,w2⟩:=zHo m2 (by omega) pb (wb.f 0).l
 rw [hk,w2] at w1
 have w1:=Except.ok.inj w1
 have a1 : rgD cDf (b.f 0).l = rgD cDf (a.f 0).l:=congrArg (fun x => x.1) w1
 rw [doc_id fa ha,doc_id fb hb,a1]
end Go.Proofs.YtdlnnlglmifceaaDoor
namespace Go.Proofs.YtdlnnlglmifceaaDoor
open Go.RowKit
set_option linter.unusedSectionVars false
attribute [local irreducible] wpList Calls Code.wp AW AWo OpOk seqK zAf zAj loopK endK AC zAH Yld Sub
attribute [local irreducible] ACB ACX YldG absLexH
theorem zA6 (s : ByteArray) : AC EN Tryd.prog 40 [.c (.string s)] (.c (.bool (nameB s))):=by
 refine ac_of (r:=.bool (nameB s)) fun σ w us hus _ => ?_
 obtain ⟨rfl,hs⟩:=str_arg hus
 refine ⟨trivial,(nameR s w hs).mono ?_⟩
 rintro e w' ⟨rfl,rfl⟩
 exact ⟨rfl,Below.refl _ _⟩
noncomputable def HSfW (d : D) (n : Int) (i : Nat) : Vst 21:=stS 21 [(1,.bx 1 0),(3,.c (.int .i64 n)),(4,.c (.int .i64 (i : Int)))] [(1,.box 44 (cellsV Tryd.prog 12 44 d))]
theorem zGL : ∀ (k : Nat) (d : D),Dp k d -> AC EN Tryd.prog 72 [.agg (cellsV Tryd.prog 12 44 d)] (.c (.int .i64 (zG8 k d)))
 | 0,_,h => h.elim
 | k + 1,d,h => by
   refine zFZ 2 (by kernel_rfl) fun hL => ?_
   have hl : (d.f 3).l.length <= 9223372036854775807:=(zEP hL).1
   clear hL
   have ih:=fun i (hi : i < (d.f 3).l.length) => zGL k (gD (d.f 3).l i) (h i hi)
   have hs : zG8 (k + 1) d = IntKind.i64.wrap ((1 + sumN (fun i => sizeR k (gD (d.f 3).l i)) (d.f 3).l.length : Nat) : Int):=rfl
   refine zV 21 Tryd.func72 rfl rfl rfl rfl ?_
   intro s w he
   repeat' (first
|refine zA ?_
|refine zI ?_
|refine zZ ?_
|refine zW ?_
|refine zi ?_
|apply aw_1
 conv => whnf
 refine ⟨?_,trivial⟩
|apply s_1
 conv => whnf; arg 1; arg 4; arg 3; whnf
 refine ⟨?_,?_⟩
|apply zAF rfl
 . conv => lhs; whnf
 . conv => lhs; whnf; arg 2; whnf
|apply zk rfl
 . conv => lhs; whnf
 . conv => lhs; whnf
 . first | fail
|apply zAO rfl rfl rfl rfl
 . conv => lhs; whnf; arg 1; whnf
 . rfl
|apply zS
 . conv => lhs; whnf; arg 1; arg 1; whnf
|apply zU
 . conv => lhs; whnf; arg 1; arg 1; whnf
|refine zd (by conv => lhs; whnf) ?_ ?_ <;> intro hb
|refine zv ?_
|refine zh ?_
|refine zJ ?_
|refine zK ?_
|refine zH ?_
|refine zE rfl ?_
|refine zM rfl ?_
|refine zL ?_
|refine zO ?_
|refine zC ?_
|refine zN ?_
|refine zAG ?_
|refine zB ?_
|refine ⟨_,by conv => lhs; whnf; arg 2; whnf,?_⟩; conv => rhs; whnf
|exact trivial
|intro hg)
   refine z7 (fun j st => ∃ i,i + j = (d.f 3).l.length /\ Sub (cx EN Tryd.prog s w he) st (HSfW d (IntKind.i64.wrap ((1 + sumN (fun i => sizeR k (gD (d.f 3).l i)) i : Nat) : Int)) i)) (d.f 3).l.length ⟨0,by omega,Sub.live ⟨rfl,rfl,rfl,trivial⟩ ⟨rfl,trivial⟩⟩ ?_
   rintro j st ⟨i,hij,hs2⟩
   refine zAA hs2 ?_
   clear hs2
   by_cases hi : i < (d.f 3).l.length
   . have f0 : decide ((i : Int) < ((d.f 3).l.length : Nat)) = true:=decide_eq_true (by omega)
     have ih2:=ih i hi
     have hss : sumN (fun i => sizeR k (gD (d.f 3).l i)) (i + 1) = sumN (fun i => sizeR k (gD (d.f 3).l i)) i + sizeR k (gD (d.f 3).l i):=rfl
     repeat' (first
|apply s_addW (y:=.tmp _) rfl rfl rfl
 . conv => lhs; whnf
 . conv => lhs; whnf
|apply zG
 . conv => lhs; whnf
 . assumption
|apply zF
 . conv => lhs; whnf
 . assumption
|refine ze ?_
|refine zY ?_
|refine zAP ?_
|refine zA ?_
|refine zI ?_
|refine zZ ?_
|refine zW ?_
|refine zi ?_
|apply aw_1
 conv => whnf
 refine ⟨?_,trivial⟩
|apply s_1
 conv => whnf; arg 1; arg 4; arg 3; whnf
 refine ⟨?_,?_⟩
|apply zAF rfl
 . conv => lhs; whnf
 . conv => lhs; whnf; arg 2; whnf
|apply zk rfl
 . conv => lhs; whnf
 . conv => lhs; whnf
 . first | exact ih2
|apply zAO rfl rfl rfl rfl
 . conv => lhs; whnf; arg 1; whnf
 . rfl
|apply zS
 . conv => lhs; whnf; arg 1; arg 1; whnf
|apply zU
 . conv => lhs; whnf; arg 1; arg 1; whnf
|refine zd (by conv => lhs; whnf) ?_ ?_ <;> intro hb
|refine zv ?_
|refine zh ?_
|refine zJ ?_
|refine zK ?_
|refine zH ?_
|refine zE rfl ?_
|refine zM rfl ?_
|refine zL ?_
|refine zO ?_
|refine zC ?_
|refine zN ?_
|refine zAG ?_
|refine zB ?_
|refine ⟨_,by conv => lhs; whnf; arg 2; whnf,?_⟩; conv => rhs; whnf
|exact trivial
|intro hg)
     all_goals first
      | exact zu (by omega)
      | exact zx hi
      | (refine za (j':=j - 1) (by omega) ⟨i + 1,by omega,Sub.live ⟨rfl,?_,rfl,trivial⟩ ⟨rfl,trivial⟩⟩
         refine congrArg (fun n => V.c (.int .i64 n)) (?_ : IntKind.i64.wrap (IntKind.i64.wrap ((1 + sumN (fun i => sizeR k (gD (d.f 3).l i)) i : Nat) : Int) + zG8 k (gD (d.f 3).l i)) = IntKind.i64.wrap ((1 + sumN (fun i => sizeR k (gD (d.f 3).l i)) (i + 1) : Nat) : Int))
         rw [zEy,hss]
         unfold zG8
         rw [wrap_add_r]
         congr 1
         omega)
   . have f0 : decide ((i : Int) < ((d.f 3).l.length : Nat)) = false:=decide_eq_false (by omega)
     repeat' (first
|apply zG
 . conv => lhs; whnf
 . assumption
|apply zF
 . conv => lhs; whnf
 . assumption
|refine ze ?_
|refine zY ?_
|refine zAP ?_
|refine zA ?_
|refine zI ?_
|refine zZ ?_
|refine zW ?_
|refine zi ?_
|apply aw_1
 conv => whnf
 refine ⟨?_,trivial⟩
|apply s_1
 conv => whnf; arg 1; arg 4; arg 3; whnf
 refine ⟨?_,?_⟩
|apply zAF rfl
 . conv => lhs; whnf
 . conv => lhs; whnf; arg 2; whnf
|apply zk rfl
 . conv => lhs; whnf
 . conv => lhs; whnf
 . first | fail
|apply zAO rfl rfl rfl rfl
 . conv => lhs; whnf; arg 1; whnf
 . rfl
|apply zS
 . conv => lhs; whnf; arg 1; arg 1; whnf
|apply zU
 . conv => lhs; whnf; arg 1; arg 1; whnf
|refine zd (by conv => lhs; whnf) ?_ ?_ <;> intro hb
|refine zv ?_
|refine zh ?_
|refine zJ ?_
|refine zK ?_
|refine zH ?_
|refine zE rfl ?_
|refine zM rfl ?_
|refine zL ?_
|refine zO ?_
|refine zC ?_
|refine zN ?_
|refine zAG ?_
|refine zB ?_
|refine ⟨_,by conv => lhs; whnf; arg 2; whnf,?_⟩; conv => rhs; whnf
|exact trivial
|intro hg)
     rw [hs,show i = (d.f 3).l.length by omega]
noncomputable def HDfW (d : D) (n : Int) (i : Nat) : Vst 22:=stS 22 [(1,.bx 1 0),(3,.c (.int .i64 n)),(4,.c (.int .i64 (i : Int)))] [(1,.box 44 (cellsV Tryd.prog 12 44 d))]
theorem zFQ : ∀ (k : Nat) (d : D),Dp k d -> AC EN Tryd.prog 73 [.agg (cellsV Tryd.prog 12 44 d)] (.c (.int .i64 (zCp k d)))
 | 0,_,h => h.elim
 | k + 1,d,h => by
   refine zFZ 2 (by kernel_rfl) fun hL => ?_
   have hl : (d.f 3).l.length <= 9223372036854775807:=(zEP hL).1
   clear hL
   have ih:=fun i (hi : i < (d.f 3).l.length) => zFQ k (gD (d.f 3).l i) (h i hi)
   have hs : zCp (k + 1) d = IntKind.i64.wrap (maxW (fun i => zCp k (gD (d.f 3).l i)) (d.f 3).l.length + 1):=rfl
   refine zV 22 Tryd.func73 rfl rfl rfl rfl ?_
   intro s w he
   repeat' (first
|refine zA ?_
|refine zI ?_
|refine zZ ?_
|refine zW ?_
|refine zi ?_
|apply aw_1
 conv => whnf
 refine ⟨?_,trivial⟩
|apply s_1
 conv => whnf; arg 1; arg 4; arg 3; whnf
 refine ⟨?_,?_⟩
|apply zAF rfl
 . conv => lhs; whnf
 . conv => lhs; whnf; arg 2; whnf
|apply zk rfl
 . conv => lhs; whnf
 . conv => lhs; whnf
 . first | fail
|apply zAO rfl rfl rfl rfl
 . conv => lhs; whnf; arg 1; whnf
 . rfl
|apply zS
 . conv => lhs; whnf; arg 1; arg 1; whnf
|apply zU
 . conv => lhs; whnf; arg 1; arg 1; whnf
|refine zd (by conv => lhs; whnf) ?_ ?_ <;> intro hb
|refine zv ?_
|refine zh ?_
|refine zJ ?_
|refine zK ?_
|refine zH ?_
|refine zE rfl ?_
|refine zM rfl ?_
|refine zL ?_
|refine zO ?_
|refine zC ?_
|refine zN ?_
|refine zAG ?_
|refine zB ?_
|refine ⟨_,by conv => lhs; whnf; arg 2; whnf,?_⟩; conv => rhs; whnf
|exact trivial
|intro hg)
   refine z7 (fun j st => ∃ i,i + j = (d.f 3).l.length /\ Sub (cx EN Tryd.prog s w he) st (HDfW d (maxW (fun i => zCp k (gD (d.f 3).l i)) i) i)) (d.f 3).l.length ⟨0,by omega,Sub.live ⟨rfl,rfl,rfl,trivial⟩ ⟨rfl,trivial⟩⟩ ?_
   rintro j st ⟨i,hij,hs2⟩
   refine zAA hs2 ?_
   clear hs2
   by_cases hi : i < (d.f 3).l.length
   . have f0 : decide ((i : Int) < ((d.f 3).l.length : Nat)) = true:=decide_eq_true (by omega)
     have ih2:=ih i hi
     repeat' (first
|apply s_max rfl rfl rfl
 . conv => lhs; whnf; arg 1; whnf
 . conv => lhs; whnf; arg 1; whnf
|apply zG
 . conv => lhs; whnf
 . assumption
|apply zF
 . conv => lhs; whnf
 . assumption
|refine ze ?_
|refine zY ?_
|refine zAP ?_
|refine zA ?_
|refine zI ?_
|refine zZ ?_
|refine zW ?_
|refine zi ?_
|apply aw_1
 conv => whnf
 refine ⟨?_,trivial⟩
|apply s_1
 conv => whnf; arg 1; arg 4; arg 3; whnf
 refine ⟨?_,?_⟩
|apply zAF rfl
 . conv => lhs; whnf
 . conv => lhs; whnf; arg 2; whnf
|apply zk rfl
 . conv => lhs; whnf
 . conv => lhs; whnf
 . first | exact ih2
|apply zAO rfl rfl rfl rfl
 . conv => lhs; whnf; arg 1; whnf
 . rfl
|apply zS
 . conv => lhs; whnf; arg 1; arg 1; whnf
|apply zU
 . conv => lhs; whnf; arg 1; arg 1; whnf
|refine zd (by conv => lhs; whnf) ?_ ?_ <;> intro hb
|refine zv ?_
|refine zh ?_
|refine zJ ?_
|refine zK ?_
|refine zH ?_
|refine zE rfl ?_
|refine zM rfl ?_
|refine zL ?_
|refine zO ?_
|refine zC ?_
|refine zN ?_
|refine zAG ?_
|refine zB ?_
|refine ⟨_,by conv => lhs; whnf; arg 2; whnf,?_⟩; conv => rhs; whnf
|exact trivial
|intro hg)
     all_goals first
      | exact zu (by omega)
      | exact zx hi
      | exact za (j':=j - 1) (by omega) ⟨i + 1,by omega,Sub.live ⟨rfl,rfl,rfl,trivial⟩ ⟨rfl,trivial⟩⟩
   . have f0 : decide ((i : Int) < ((d.f 3).l.length : Nat)) = false:=decide_eq_false (by omega)
     have e : i = (d.f 3).l.length:=by omega
     subst e
     repeat' (first
|apply s_addW rfl rfl rfl
 . conv => lhs; whnf
 . conv => lhs; whnf
|apply zG
 . conv => lhs; whnf
 . assumption
|apply zF
 . conv => lhs; whnf
 . assumption
|refine ze ?_
|refine zY ?_
|refine zAP ?_
|refine zA ?_
|refine zI ?_
|refine zZ ?_
|refine zW ?_
|refine zi ?_
|apply aw_1
 conv => whnf
 refine ⟨?_,trivial⟩
|apply s_1
 conv => whnf; arg 1; arg 4; arg 3; whnf
 refine ⟨?_,?_⟩
|apply zAF rfl
 . conv => lhs; whnf
 . conv => lhs; whnf; arg 2; whnf
|apply zk rfl
 . conv => lhs; whnf
 . conv => lhs; whnf
 . first | fail
|apply zAO rfl rfl rfl rfl
 . conv => lhs; whnf; arg 1; whnf
 . rfl
|apply zS
 . conv => lhs; whnf; arg 1; arg 1; whnf
|apply zU
 . conv => lhs; whnf; arg 1; arg 1; whnf
|refine zd (by conv => lhs; whnf) ?_ ?_ <;> intro hb
|refine zv ?_
|refine zh ?_
|refine zJ ?_
|refine zK ?_
|refine zH ?_
|refine zE rfl ?_
|refine zM rfl ?_
|refine zL ?_
|refine zO ?_
|refine zC ?_
|refine zN ?_
|refine zAG ?_
|refine zB ?_
|refine ⟨_,by conv => lhs; whnf; arg 2; whnf,?_⟩; conv => rhs; whnf
|exact trivial
|intro hg)
     rfl
def eqStU (l : List D) (i k : Nat) : Bool:=(gD l i).s.toList == (gD l k).s.toList
def zF0 (l : List D) (i : Nat) : Nat -> Nat -> Bool
 | 0,_ => false
 | j + 1,k => eqStU l i k || zF0 l i j (k + 1)
def zEv (l : List D) : Nat -> Nat -> Bool
 | 0,_ => false
 | j + 1,i => zF0 l i i 0 || zEv l j (i + 1)
theorem zGj (l : List D) (i : Nat) : ∀ (j k : Nat),zF0 l i j k = true ↔ ∃ m,k <= m /\ m < k + j /\ eqStU l i m = true
 | 0,k => by simp only [zF0,Bool.false_eq_true,false_iff]; rintro ⟨m,h1,h2,-⟩; omega
 | j + 1,k => by
   rw [zF0,Bool.or_eq_true,zGj l i j (k + 1)]
   constructor
   . rintro (h | ⟨m,h1,h2,h3⟩)
     . exact ⟨k,Nat.le_refl _,by omega,h⟩
     . exact ⟨m,by omega,by omega,h3⟩
   . rintro ⟨m,h1,h2,h3⟩
     by_cases e : m = k
     . subst e; exact .inl h3
     . exact .inr ⟨m,by omega,by omega,h3⟩
theorem zGU (l : List D) : ∀ (j i : Nat),zEv l j i = true ↔ ∃ m,i <= m /\ m < i + j /\ ∃ k,k < m /\ eqStU l m k = true
 | 0,i => by simp only [zEv,Bool.false_eq_true,false_iff]; rintro ⟨m,h1,h2,-⟩; omega
 | j + 1,i => by
   rw [zEv,Bool.or_eq_true,zGU l j (i + 1),zGj]
   constructor
   . rintro (⟨k,h1,h2,h3⟩ | ⟨m,h1,h2,h3⟩)
     . exact ⟨i,Nat.le_refl _,by omega,k,by omega,h3⟩
     . exact ⟨m,by omega,by omega,h3⟩
   . rintro ⟨m,h1,h2,k,h3,h4⟩
     by_cases e : m = i
     . subst e; exact .inl ⟨k,by omega,by omega,h4⟩
     . exact .inr ⟨m,by omega,by omega,k,h3,h4⟩
theorem outT_RU (d : D) : zEv (d.f 4).l (d.f 4).l.length 0 = !decide (strsR d).Nodup:=by
 rw [Bool.eq_iff_iff,zGU,Bool.not_eq_true',decide_eq_false_iff_not]
 have hlen : (strsR d).length = (d.f 4).l.length:=by simp [strsR]
 have hg : ∀ i (h : i < (d.f 4).l.length),(strsR d)[i]'(by rw [hlen]; exact h) = (gD (d.f 4).l i).s.data.toList:=fun i h => by
  simp only [strsR,List.getElem_map]
  rw [gD,List.getD_eq_getElem?_getD,List.getElem?_eq_getElem h]; rfl
 have he : ∀ i k,eqStU (d.f 4).l i k = true ↔ (gD (d.f 4).l i).s.data.toList = (gD (d.f 4).l k).s.data.toList:=fun i k => by
  unfold eqStU; rw [Lib.toList_data,Lib.toList_data,beq_iff_eq]
 constructor
 . rintro ⟨m,-,h2,k,h3,h4⟩ hn
   have h5:=List.pairwise_iff_getElem.1 hn k m (by omega) (by omega) h3
   rw [hg k (by omega),hg m (by omega)] at h5
   exact h5 ((he m k).1 h4).symm
 . intro hn
   refine Classical.byContradiction fun hc => hn (List.pairwise_iff_getElem.2 fun k m hk hm hkm hq => hc ⟨m,Nat.zero_le _,by omega,k,hkm,?_⟩)
   rw [hg k (by omega),hg m (by omega)] at hq
   exact (he m k).2 hq.symm
noncomputable def HToU (l : List D) (i : Nat) : Vst 25:=stS 25 [(0,.sl 9 l),(3,.c (.int .i64 (i : Int)))] []
noncomputable def HTiU (l : List D) (i k : Nat) : Vst 25:=stS 25 [(0,.sl 9 l),(3,.c (.int .i64 (i : Int))),(4,.c (.int .i64 (k : Int)))] []
theorem twiceFU_ac (d : D) : AC EN Tryd.prog 89 [.sl 9 (d.f 4).l] (.c (.bool (!decide (strsR d).Nodup))):=by
 refine ac_sl 1 fun hL2 => ?_
 have hl : (d.f 4).l.length <= 9223372036854775807:=hL2.1
 clear hL2
 have hR:=outT_RU d
 generalize (!decide (strsR d).Nodup) = R at hR |-
 generalize (d.f 4).l = l at hR hl |-
 refine zV 25 Tryd.func89 rfl rfl rfl rfl ?_
 intro s w he
 repeat' (first
|refine zA ?_
|refine zI ?_
|refine zZ ?_
|refine zW ?_
|refine zi ?_
|apply aw_1
 conv => whnf
 refine ⟨?_,trivial⟩
|apply s_1
 conv => whnf; arg 1; arg 4; arg 3; whnf
 refine ⟨?_,?_⟩
|apply zAF rfl
 . conv => lhs; whnf
 . conv => lhs; whnf; arg 2; whnf
|apply zq (by kernel_rfl) (by kernel_rfl)
|apply zAR
|apply zAQ rfl
 . conv => lhs; whnf
 . conv => lhs; whnf; arg 2; whnf
|exact zR
|exact zX
|exact all_nil
|show List.all _ _ = true; rfl
|show zAC _ _ = true; rfl
|exact ([] : List Nat)
|exact (1000000 : Nat)
|apply zS
 . conv => lhs; whnf; arg 1; arg 1; whnf
|apply zU
 . conv => lhs; whnf; arg 1; arg 1; whnf
|refine zd (by conv => lhs; whnf) ?_ ?_ <;> intro hb
|refine zv ?_
|refine zh ?_
|refine zJ ?_
|refine zK ?_
|refine zH ?_
|refine zE rfl ?_
|refine zM rfl ?_
|refine zL ?_
|refine zO ?_
|refine zC ?_
|refine zN ?_
|refine zAG ?_
|refine zB ?_
|refine ⟨_,by conv => lhs; whnf; arg 2; whnf,?_⟩; conv => rhs; whnf
|exact trivial
|intro hg)
 refine z7 (fun j st => ∃ i,i + j = l.length /\ zEv l j i = R /\ Sub (cx EN Tryd.prog s w he) st (HToU l i)) l.length ⟨0,by omega,hR,Sub.live ⟨rfl,rfl,trivial⟩ trivial⟩ ?_
 clear hR
 rintro j st ⟨i,hij,hR,hs2⟩
 refine zAA hs2 ?_
 clear hs2
 by_cases hi : i < l.length
 . obtain ⟨j,rfl⟩ : ∃ q,j = q + 1:=⟨j - 1,by omega⟩
   have f1 : decide ((i : Int) < (l.length : Nat)) = true:=decide_eq_true (by omega)
   have hR' : (zF0 l i i 0 || zEv l j (i + 1)) = R:=hR
   clear hR
   repeat' (first
|apply zG
 . conv => lhs; whnf
 . assumption
|apply zF
 . conv => lhs; whnf
 . assumption
|refine ze ?_
|refine zY ?_
|refine zAP ?_
|refine zA ?_
|refine zI ?_
|refine zZ ?_
|refine zW ?_
|refine zi ?_
|apply aw_1
 conv => whnf
 refine ⟨?_,trivial⟩
|apply s_1
 conv => whnf; arg 1; arg 4; arg 3; whnf
 refine ⟨?_,?_⟩
|apply zAF rfl
 . conv => lhs; whnf
 . conv => lhs; whnf; arg 2; whnf
|apply zq (by kernel_rfl) (by kernel_rfl)
|apply zAR
|apply zAQ rfl
 . conv => lhs; whnf
 . conv => lhs; whnf; arg 2; whnf
|exact zR
|exact zX
|exact all_nil
|show List.all _ _ = true; rfl
|show zAC _ _ = true; rfl
|exact ([] : List Nat)
|exact (1000000 : Nat)
|apply zS
 . conv => lhs; whnf; arg 1; arg 1; whnf
|apply zU
 . conv => lhs; whnf; arg 1; arg 1; whnf
|refine zd (by conv => lhs; whnf) ?_ ?_ <;> intro hb
|refine zv ?_
|refine zh ?_
|refine zJ ?_
|refine zK ?_
|refine zH ?_
|refine zE rfl ?_
|refine zM rfl ?_
|refine zL ?_
|refine zO ?_
|refine zC ?_
|refine zN ?_
|refine zAG ?_
|refine zB ?_
|refine ⟨_,by conv => lhs; whnf; arg 2; whnf,?_⟩; conv => rhs; whnf
|exact trivial
|intro hg)
   refine z7 (fun jj st => ∃ k,k + jj = i /\ (zF0 l i jj k || zEv l j (i + 1)) = R /\ Sub (cx EN Tryd.prog s w he) st (HTiU l i k)) i ⟨0,by omega,hR',Sub.live ⟨rfl,rfl,rfl,trivial⟩ trivial⟩ ?_
   clear hR'
   rintro jj st ⟨k,hk,hR,hs2⟩
   refine zAA hs2 ?_
   clear hs2
   by_cases hki : k < i
   . obtain ⟨jj,rfl⟩ : ∃ q,jj = q + 1:=⟨jj - 1,by omega⟩
     have f2 : decide ((k : Int) < (i : Int)) = true:=decide_eq_true (by omega)
     have hR' : (eqStU l i k || zF0 l i jj (k + 1) || zEv l j (i + 1)) = R:=hR
     have hkl : k < l.length:=by omega
     repeat' (first
|apply zG
 . conv => lhs; whnf
 . assumption
|apply zF
 . conv => lhs; whnf
 . assumption
|refine ze ?_
|refine zY ?_
|refine zAP ?_
|refine zA ?_
|refine zI ?_
|refine zZ ?_
|refine zW ?_
|refine zi ?_
|apply aw_1
 conv => whnf
 refine ⟨?_,trivial⟩
|apply s_1
 conv => whnf; arg 1; arg 4; arg 3; whnf
 refine ⟨?_,?_⟩
|apply zAF rfl
 . conv => lhs; whnf
 . conv => lhs; whnf; arg 2; whnf
|apply zq (by kernel_rfl) (by kernel_rfl)
|apply zAR
|apply zAQ rfl
 . conv => lhs; whnf
 . conv => lhs; whnf; arg 2; whnf
|exact zR
|exact zX
|exact all_nil
|show List.all _ _ = true; rfl
|show zAC _ _ = true; rfl
|exact ([] : List Nat)
|exact (1000000 : Nat)
|apply zS
 . conv => lhs; whnf; arg 1; arg 1; whnf
|apply zU
 . conv => lhs; whnf; arg 1; arg 1; whnf
|refine zd (by conv => lhs; whnf) ?_ ?_ <;> intro hb
|refine zv ?_
|refine zh ?_
|refine zJ ?_
|refine zK ?_
|refine zH ?_
|refine zE rfl ?_
|refine zM rfl ?_
|refine zL ?_
|refine zO ?_
|refine zC ?_
|refine zN ?_
|refine zAG ?_
|refine zB ?_
|refine ⟨_,by conv => lhs; whnf; arg 2; whnf,?_⟩; conv => rhs; whnf
|exact trivial
|intro hg)
     all_goals first
      | exact zu (by omega)
      | exact zx hi
      | exact zx hkl
      | skip
     . have e : eqStU l i k = true:=by assumption
       rw [<- hR',e]; rfl
     . have e : eqStU l i k = false:=by assumption
       exact za (j':=jj) (by omega) ⟨k + 1,by omega,by rw [<- hR',e,Bool.false_or],Sub.live ⟨rfl,rfl,rfl,trivial⟩ trivial⟩
   . obtain rfl : jj = 0:=by omega
     have f2 : decide ((k : Int) < (i : Int)) = false:=decide_eq_false (by omega)
     have hR' : zEv l j (i + 1) = R:=by rw [<- hR,zF0,Bool.false_or]
     repeat' (first
|apply zG
 . conv => lhs; whnf
 . assumption
|apply zF
 . conv => lhs; whnf
 . assumption
|refine ze ?_
|refine zY ?_
|refine zAP ?_
|refine zA ?_
|refine zI ?_
|refine zZ ?_
|refine zW ?_
|refine zi ?_
|apply aw_1
 conv => whnf
 refine ⟨?_,trivial⟩
|apply s_1
 conv => whnf; arg 1; arg 4; arg 3; whnf
 refine ⟨?_,?_⟩
|apply zAF rfl
 . conv => lhs; whnf
 . conv => lhs; whnf; arg 2; whnf
|apply zq (by kernel_rfl) (by kernel_rfl)
|apply zAR
|apply zAQ rfl
 . conv => lhs; whnf
 . conv => lhs; whnf; arg 2; whnf
|exact zR
|exact zX
|exact all_nil
|show List.all _ _ = true; rfl
|show zAC _ _ = true; rfl
|exact ([] : List Nat)
|exact (1000000 : Nat)
|apply zS
 . conv => lhs; whnf; arg 1; arg 1; whnf
|apply zU
 . conv => lhs; whnf; arg 1; arg 1; whnf
|refine zd (by conv => lhs; whnf) ?_ ?_ <;> intro hb
|refine zv ?_
|refine zh ?_
|refine zJ ?_
|refine zK ?_
|refine zH ?_
|refine zE rfl ?_
|refine zM rfl ?_
|refine zL ?_
|refine zO ?_
|refine zC ?_
|refine zN ?_
|refine zAG ?_
|refine zB ?_
|refine ⟨_,by conv => lhs; whnf; arg 2; whnf,?_⟩; conv => rhs; whnf
|exact trivial
|intro hg)
     all_goals first
      | exact zu (by omega)
      | exact za (j':=j) (by omega) ⟨i + 1,by omega,hR',Sub.live ⟨rfl,rfl,trivial⟩ trivial⟩
      | skip
 . obtain rfl : j = 0:=by omega
   have f1 : decide ((i : Int) < (l.length : Nat)) = false:=decide_eq_false (by omega)
   repeat' (first
|apply zG
 . conv => lhs; whnf
 . assumption
|apply zF
 . conv => lhs; whnf
 . assumption
|refine ze ?_
|refine zY ?_
|refine zAP ?_
|refine zA ?_
|refine zI ?_
|refine zZ ?_
|refine zW ?_
|refine zi ?_
|apply aw_1
 conv => whnf
 refine ⟨?_,trivial⟩
|apply s_1
 conv => whnf; arg 1; arg 4; arg 3; whnf
 refine ⟨?_,?_⟩
|apply zAF rfl
 . conv => lhs; whnf
 . conv => lhs; whnf; arg 2; whnf
|apply zq (by kernel_rfl) (by kernel_rfl)
|apply zAR
|apply zAQ rfl
 . conv => lhs; whnf
 . conv => lhs; whnf; arg 2; whnf
|exact zR
|exact zX
|exact all_nil
|show List.all _ _ = true; rfl
|show zAC _ _ = true; rfl
|exact ([] : List Nat)
|exact (1000000 : Nat)
|apply zS
 . conv => lhs; whnf; arg 1; arg 1; whnf
|apply zU
 . conv => lhs; whnf; arg 1; arg 1; whnf
|refine zd (by conv => lhs; whnf) ?_ ?_ <;> intro hb
|refine zv ?_
|refine zh ?_
|refine zJ ?_
|refine zK ?_
|refine zH ?_
|refine zE rfl ?_
|refine zM rfl ?_
|refine zL ?_
|refine zO ?_
|refine zC ?_
|refine zN ?_
|refine zAG ?_
|refine zB ?_
|refine ⟨_,by conv => lhs; whnf; arg 2; whnf,?_⟩; conv => rhs; whnf
|exact trivial
|intro hg)
   rw [<- hR]; rfl
def zHy (n i : Int) (t : Bool) (a b : Nat) (x v y : Bool) : Bool:=
 if n = 0 then i == 0 && t && b == 0 && a == 0
 else if n = 1 then (i == 0 || i == 1) && t && b == 0 && a == 0
 else if n = 2 then t && b == 0 && a == 0
 else if n = 3 then i == 0 && b == 0 && a == 0
 else if n = 4 then i == 0 && b == 0 && a == 0 && x
 else if n = 5 then i == 0 && t && a == 0
 else if n = 6 then i == 0 && t && a == b && y
 else if n = 7 then i == 0 && b == 0 && a == 0 && v
 else false
theorem nodeF_KU (n i : Int) (t : Bool) (a b : Nat) (x v ks y : Bool) (hks : a = 0 -> ks = true) : (zHy n i t a b x v y && ks) = nodeK n i t a b x v ks y:=by
 have h0 : (a == 0) = true -> ks = true:=fun h => hks (by simpa using h)
 unfold zHy nodeK
 by_cases n0 : n = 0
 . subst n0; cases ks <;> simp_all
   try ac_rfl
 by_cases n1 : n = 1
 . subst n1; cases ks <;> simp_all
   try ac_rfl
 by_cases n2 : n = 2
 . subst n2; cases ks <;> simp_all
   try ac_rfl
 by_cases n3 : n = 3
 . subst n3; cases ks <;> simp_all
   try ac_rfl
 by_cases n4 : n = 4
 . subst n4; cases ks <;> simp_all
   try ac_rfl
 by_cases n5 : n = 5
 . subst n5; cases ks <;> simp_all
   try ac_rfl
 by_cases n6 : n = 6
 . subst n6; cases ks <;> simp_all
   try ac_rfl
 by_cases n7 : n = 7
 . subst n7; cases ks <;> simp_all
   try ac_rfl
 have hd : decide (0 <= n /\ n <= 7) = false:=decide_eq_false (by omega)
 rw [hd]
 simp [n0,n1,n2,n3,n4,n5,n6,n7]
def zDk (d : D) : Bool:=zHy (d.f 0).n (d.f 1).n ((d.f 2).s.data.toList == []) (d.f 4).l.length (d.f 3).l.length (enumR (d.f 2).s) (nameB (d.f 2).s) (decide (strsR d).Nodup)
theorem nodeD_LU (d : D) : (zDk d && !((d.f 4).l.any fun x => !nameB x.s)) = zFv d:=
 nodeF_KU _ _ _ _ _ _ _ _ _ fun h => by rw [List.eq_nil_of_length_eq_zero h]; rfl
theorem nodeFU_ac (d : D) : AC EN Tryd.prog 83 [.agg (cellsV Tryd.prog 12 44 d),.c (.bool true)] (.c (.bool (zDk d))):=by
 have h1:=zA6 (d.f 2).s
 have h2:=twiceFU_ac d
 have e : cellsV Tryd.prog 12 44 d = [.c (.int .i64 (d.f 0).n),.c (.int .i64 (d.f 1).n),.c (.string (d.f 2).s),.sl 44 (d.f 3).l,.sl 9 (d.f 4).l]:=rfl
 have hT : ((d.f 2).s.toList == ({ data:=#[] } : ByteArray).toList) = ((d.f 2).s.data.toList == []):=zEF _ []
 have hT1 : ((d.f 2).s.toList == ({ data:=#[116,114,117,101] } : ByteArray).toList) = ((d.f 2).s.data.toList == [116,114,117,101]):=zEF _ _
 have hT2 : ((d.f 2).s.toList == ({ data:=#[102,97,108,115,101] } : ByteArray).toList) = ((d.f 2).s.data.toList == [102,97,108,115,101]):=zEF _ _
 have hT3 : ((d.f 2).s.toList == ({ data:=#[110,117,108,108] } : ByteArray).toList) = ((d.f 2).s.data.toList == [110,117,108,108]):=zEF _ _
 have z3 : (((d.f 3).l.length : Int) == 0) = ((d.f 3).l.length == 0):=by rw [Bool.eq_iff_iff]; simp only [beq_iff_eq]; omega
 have z4 : (((d.f 4).l.length : Int) == 0) = ((d.f 4).l.length == 0):=by rw [Bool.eq_iff_iff]; simp only [beq_iff_eq]; omega
 have z5 : (((d.f 4).l.length : Int) == ((d.f 3).l.length : Int)) = ((d.f 4).l.length == (d.f 3).l.length):=by rw [Bool.eq_iff_iff]; simp only [beq_iff_eq]; omega
 unfold zDk zHy enumR
 rw [e]
 by_cases h8 : 0 <= (d.f 0).n /\ (d.f 0).n <= 7
 . have h9 : (d.f 0).n = 0 \/ (d.f 0).n = 1 \/ (d.f 0).n = 2 \/ (d.f 0).n = 3 \/ (d.f 0).n = 4 \/ (d.f 0).n = 5 \/ (d.f 0).n = 6 \/ (d.f 0).n = 7:=by omega
   rcases h9 with hn | hn | hn | hn | hn | hn | hn | hn
   all_goals
    rw [hn]
    simp only [if_pos,if_neg,reduceIte,Int.reduceEq]
    refine zV 193 Tryd.func83 rfl rfl rfl rfl ?_
    intro s w he
    repeat' (first
|apply s_wanted_pick_t rfl rfl rfl
 . conv => lhs; whnf
 . first | rfl | assumption
 . conv => lhs; whnf
 . first | exact bT1 ‹_› | exact bT2 ‹_› | rfl
|apply zAK rfl rfl rfl
 . conv => lhs; whnf
 . first | rfl | assumption
 . conv => lhs; whnf
 . first | exact bT1 ‹_› | exact bT2 ‹_› | rfl
|apply s_wanted_pick_f rfl rfl rfl
 . conv => lhs; whnf
 . first | rfl | assumption
 . conv => lhs; whnf
 . first | exact bF1 ‹_› | exact bF2 ‹_› | rfl
|apply zAL rfl rfl rfl
 . conv => lhs; whnf
 . first | rfl | assumption
 . conv => lhs; whnf
 . first | exact bF1 ‹_› | exact bF2 ‹_› | rfl
|refine zA ?_
|refine zI ?_
|refine zZ ?_
|refine zW ?_
|refine zi ?_
|apply aw_1
 conv => whnf
 refine ⟨?_,trivial⟩
|apply zn rfl rfl
 . conv => lhs; whnf
 . conv => lhs; whnf
 . first | exact bT1 ‹_› | exact bT2 ‹_›
|apply zl rfl rfl
 . conv => lhs; whnf
 . conv => lhs; whnf
 . first | exact bF1 ‹_› | exact bF2 ‹_›
|apply s_1
 conv => whnf; arg 1; arg 4; arg 3; whnf
 refine ⟨?_,?_⟩
|apply zAF rfl
 . conv => lhs; whnf
 . conv => lhs; whnf; arg 2; whnf
|apply zk rfl
 . conv => lhs; whnf
 . conv => lhs; whnf
 . first | exact h1 | exact h2
|apply zAO rfl rfl rfl rfl
 . conv => lhs; whnf; arg 1; whnf
 . rfl
|apply zQ rfl
 . conv => lhs; whnf
 . conv => lhs; whnf
 . first | rfl | assumption
 . conv => lhs; whnf; arg 2; whnf
|apply zP rfl
 . conv => lhs; whnf
 . conv => lhs; whnf
 . first | rfl | assumption
 . conv => lhs; whnf
 . first | exact h1 | exact h2
|apply zAB rfl
 . conv => lhs; whnf
 . conv => lhs; whnf
 . first | rfl | assumption
|apply zAm rfl
 . conv => lhs; whnf
 . rfl
 . rfl
|apply zb rfl
 . conv => lhs; whnf
 . conv => lhs; whnf
 . conv => lhs; whnf; arg 2; whnf
|apply zt rfl
 . conv => lhs; whnf
 . conv => lhs; whnf
 . conv => lhs; whnf
 . first | exact h1 | exact h2
|apply zm rfl
 . conv => lhs; whnf
 . conv => lhs; whnf
 . conv => lhs; whnf; arg 2; whnf
|apply zg rfl
 . conv => lhs; whnf
 . conv => lhs; whnf
 . conv => lhs; whnf
 . first | exact h1 | exact h2
|apply zS
 . conv => lhs; whnf; arg 1; arg 1; whnf
|apply zU
 . conv => lhs; whnf; arg 1; arg 1; whnf
|refine zd (by conv => lhs; whnf) ?_ ?_ <;> intro hb
|refine zv ?_
|refine zh ?_
|refine zJ ?_
|refine zK ?_
|refine zH ?_
|refine zE rfl ?_
|refine zM rfl ?_
|refine zL ?_
|refine zO ?_
|refine zC ?_
|refine zN ?_
|refine zAG ?_
|refine zB ?_
|refine ⟨_,by conv => lhs; whnf; arg 2; whnf,?_⟩; conv => rhs; whnf
|exact trivial
|intro hg)
    all_goals
     refine congrArg (fun b => V.c (.bool b)) ?_
     clear h1 h2 he e
     simp only [hT,hT1,hT2,hT3,z3,z4,z5] at *
     clear hT hT1 hT2 hT3 z3 z4 z5
     generalize ((d.f 2).s.data.toList == []) = t at *
     generalize ((d.f 2).s.data.toList == [116,114,117,101]) = t1 at *
     generalize ((d.f 2).s.data.toList == [102,97,108,115,101]) = t2 at *
     generalize ((d.f 2).s.data.toList == [110,117,108,108]) = t3 at *
     generalize nameB (d.f 2).s = v at *
     generalize decide (strsR d).Nodup = y at *
     generalize ((d.f 3).l.length == 0) = b0 at *
     generalize ((d.f 4).l.length == 0) = a0 at *
     generalize ((d.f 4).l.length == (d.f 3).l.length) = ab at *
     generalize (d.f 1).n = i at *
     simp_all
 have n0 : (d.f 0).n ≠ 0:=by omega
 have n1 : (d.f 0).n ≠ 1:=by omega
 have n2 : (d.f 0).n ≠ 2:=by omega
 have n3 : (d.f 0).n ≠ 3:=by omega
 have n4 : (d.f 0).n ≠ 4:=by omega
 have n5 : (d.f 0).n ≠ 5:=by omega
 have n6 : (d.f 0).n ≠ 6:=by omega
 have n7 : (d.f 0).n ≠ 7:=by omega
 rw [if_neg n0,if_neg n1,if_neg n2,if_neg n3,if_neg n4,if_neg n5,if_neg n6,if_neg n7]
 . have f0 : ((d.f 0).n == 0) = false:=by simpa using n0
   have f1 : ((d.f 0).n == 1) = false:=by simpa using n1
   have f2 : ((d.f 0).n == 2) = false:=by simpa using n2
   have f3 : ((d.f 0).n == 3) = false:=by simpa using n3
   have f4 : ((d.f 0).n == 4) = false:=by simpa using n4
   have f5 : ((d.f 0).n == 5) = false:=by simpa using n5
   have f6 : ((d.f 0).n == 6) = false:=by simpa using n6
   have f7 : ((d.f 0).n == 7) = false:=by simpa using n7
   refine zV 193 Tryd.func83 rfl rfl rfl rfl ?_
   intro s w he
   repeat' (first
|apply zG
 . conv => lhs; whnf
 . assumption
|apply zF
 . conv => lhs; whnf
 . assumption
|refine ze ?_
|refine zY ?_
|refine zAP ?_
|refine zA ?_
|refine zI ?_
|refine zZ ?_
|refine zW ?_
|refine zi ?_
|apply aw_1
 conv => whnf
 refine ⟨?_,trivial⟩
|apply zn rfl rfl
 . conv => lhs; whnf
 . conv => lhs; whnf
 . first | exact bT1 ‹_› | exact bT2 ‹_›
|apply zl rfl rfl
 . conv => lhs; whnf
 . conv => lhs; whnf
 . first | exact bF1 ‹_› | exact bF2 ‹_›
|apply s_1
 conv => whnf; arg 1; arg 4; arg 3; whnf
 refine ⟨?_,?_⟩
|apply zAF rfl
 . conv => lhs; whnf
 . conv => lhs; whnf; arg 2; whnf
|apply zk rfl
 . conv => lhs; whnf
 . conv => lhs; whnf
 . first | exact h1 | exact h2
|apply zAO rfl rfl rfl rfl
 . conv => lhs; whnf; arg 1; whnf
 . rfl
|apply zQ rfl
 . conv => lhs; whnf
 . conv => lhs; whnf
 . first | rfl | assumption
 . conv => lhs; whnf; arg 2; whnf
|apply zP rfl
 . conv => lhs; whnf
 . conv => lhs; whnf
 . first | rfl | assumption
 . conv => lhs; whnf
 . first | exact h1 | exact h2
|apply zBM rfl
 . conv => lhs; whnf
 . conv => lhs; whnf
 . first | rfl | assumption
|apply zm rfl
 . conv => lhs; whnf
 . conv => lhs; whnf
 . conv => lhs; whnf; arg 2; whnf
|apply zg rfl
 . conv => lhs; whnf
 . conv => lhs; whnf
 . conv => lhs; whnf
 . first | exact h1 | exact h2
|apply zS
 . conv => lhs; whnf; arg 1; arg 1; whnf
|apply zU
 . conv => lhs; whnf; arg 1; arg 1; whnf
|refine zd (by conv => lhs; whnf) ?_ ?_ <;> intro hb
|refine zv ?_
|refine zh ?_
|refine zJ ?_
|refine zK ?_
|refine zH ?_
|refine zE rfl ?_
|refine zM rfl ?_
|refine zL ?_
|refine zO ?_
|refine zC ?_
|refine zN ?_
|refine zAG ?_
|refine zB ?_
|refine ⟨_,by conv => lhs; whnf; arg 2; whnf,?_⟩; conv => rhs; whnf
|exact trivial
|intro hg)
def zAq (p : D -> Bool) (l : List D) : Nat -> Nat -> Bool
 | 0,_ => true
 | j + 1,i => p (gD l i) && zAq p l j (i + 1)
theorem zFY (p : D -> Bool) (x : D) (l : List D) : ∀ (j i : Nat),zAq p (x :: l) j (i + 1) = zAq p l j i
 | 0,_ => rfl
 | j + 1,i => by
   unfold zAq
   rw [zFY p x l j (i + 1)]
   rfl
theorem zBJ (p : D -> Bool) : ∀ l : List D,zAq p l l.length 0 = l.all p
 | [] => rfl
 | x :: r => by
   show (p x && zAq p (x :: r) r.length 1) = (p x && r.all p)
   rw [zFY,zBJ p r]
theorem all_anyU (p : D -> Bool) (l : List D) : l.all p = !(l.any fun x => !p x):=by
 induction l with
 | nil => rfl
 | cons x r ih => simp only [List.all_cons,List.any_cons,ih,Bool.not_or,Bool.not_not]
theorem zEp (p : D -> Bool) (l : List D) : zAq p l l.length 0 = !(l.any fun x => !p x):=by rw [zBJ,all_anyU]
noncomputable def HWkU (d : D) (i : Nat) : Vst 43:=stS 43 [(1,.c (.bool true)),(2,.bx 2 0),(5,.c (.int .i64 (i : Int)))] [(2,.box 44 (cellsV Tryd.prog 12 44 d))]
noncomputable def HWiU (d : D) (i : Nat) : Vst 43:=stS 43 [(1,.c (.bool true)),(2,.bx 2 0),(6,.c (.int .i64 (i : Int)))] [(2,.box 44 (cellsV Tryd.prog 12 44 d))]
theorem zE0 : ∀ (k : Nat) (d : D),Dp k d -> AC EN Tryd.prog 74 [.agg (cellsV Tryd.prog 12 44 d),.c (.bool true)] (.c (.bool (everyL k d)))
 | 0,_,h => h.elim
 | k + 1,d,h => by
   refine zFZ 2 (by kernel_rfl) fun hL => ?_
   have hl : (d.f 3).l.length <= 9223372036854775807:=(zEP hL).1
   have hlk : (d.f 4).l.length <= 9223372036854775807:=(zEP hL).2
   clear hL
   have ih:=fun i (hi : i < (d.f 3).l.length) => zE0 k (gD (d.f 3).l i) (h i hi)
   have hn:=nodeFU_ac d
   have hname:=fun i (_ : i < (d.f 4).l.length) => zA6 (gD (d.f 4).l i).s
   have hR : everyL (k + 1) d = (zDk d && zAq (fun x => nameB x.s) (d.f 4).l (d.f 4).l.length 0 && zAq (everyL k) (d.f 3).l (d.f 3).l.length 0):=by
    rw [zEp,zEp,nodeD_LU]; rfl
   generalize everyL (k + 1) d = R at hR |-
   refine zV 43 Tryd.func74 rfl rfl rfl rfl ?_
   intro s w he
   repeat' (first
|refine zA ?_
|refine zI ?_
|refine zZ ?_
|refine zW ?_
|refine zi ?_
|apply aw_1
 conv => whnf
 refine ⟨?_,trivial⟩
|apply zn rfl rfl
 . conv => lhs; whnf
 . conv => lhs; whnf
 . first | exact bT1 ‹_› | exact bT2 ‹_›
|apply zl rfl rfl
 . conv => lhs; whnf
 . conv => lhs; whnf
 . first | exact bF1 ‹_› | exact bF2 ‹_›
|apply s_1
 conv => whnf; arg 1; arg 4; arg 3; whnf
 refine ⟨?_,?_⟩
|apply zAF rfl
 . conv => lhs; whnf
 . conv => lhs; whnf; arg 2; whnf
|apply zk rfl
 . conv => lhs; whnf
 . conv => lhs; whnf
 . first | exact hn
|apply zAO rfl rfl rfl rfl
 . conv => lhs; whnf; arg 1; whnf
 . rfl
|apply zQ rfl
 . conv => lhs; whnf
 . conv => lhs; whnf
 . first | rfl | assumption
 . conv => lhs; whnf; arg 2; whnf
|apply zP rfl
 . conv => lhs; whnf
 . conv => lhs; whnf
 . first | rfl | assumption
 . conv => lhs; whnf
 . first | exact hn
|apply zBM rfl
 . conv => lhs; whnf
 . conv => lhs; whnf
 . first | rfl | assumption
|apply zm rfl
 . conv => lhs; whnf
 . conv => lhs; whnf
 . conv => lhs; whnf; arg 2; whnf
|apply zg rfl
 . conv => lhs; whnf
 . conv => lhs; whnf
 . conv => lhs; whnf
 . first | exact hn
|apply zS
 . conv => lhs; whnf; arg 1; arg 1; whnf
|apply zU
 . conv => lhs; whnf; arg 1; arg 1; whnf
|refine zd (by conv => lhs; whnf) ?_ ?_ <;> intro hb
|refine zv ?_
|refine zh ?_
|refine zJ ?_
|refine zK ?_
|refine zH ?_
|refine zE rfl ?_
|refine zM rfl ?_
|refine zL ?_
|refine zO ?_
|refine zC ?_
|refine zN ?_
|refine zAG ?_
|refine zB ?_
|refine ⟨_,by conv => lhs; whnf; arg 2; whnf,?_⟩; conv => rhs; whnf
|exact trivial
|intro hg)
   . have hb : zDk d = false:=by simpa using (by assumption : (!zDk d) = true)
     rw [hR,hb]; rfl
   have hb : zDk d = true:=by simpa using (by assumption : (!zDk d) = false)
   rw [hb,Bool.true_and] at hR
   clear hb hn
   refine z7 (fun j st => ∃ i,i + j = (d.f 4).l.length /\ R = (zAq (fun x => nameB x.s) (d.f 4).l j i && zAq (everyL k) (d.f 3).l (d.f 3).l.length 0) /\ Sub (cx EN Tryd.prog s w he) st (HWkU d i)) (d.f 4).l.length ⟨0,by omega,hR,Sub.live ⟨rfl,rfl,rfl,trivial⟩ ⟨rfl,trivial⟩⟩ ?_
   clear hR
   rintro j st ⟨i,hij,hR,hs2⟩
   refine zAA hs2 ?_
   clear hs2
   by_cases hi : i < (d.f 4).l.length
   . obtain ⟨j,rfl⟩ : ∃ q,j = q + 1:=⟨j - 1,by omega⟩
     have f1 : decide ((i : Int) < ((d.f 4).l.length : Nat)) = true:=decide_eq_true (by omega)
     have hR' : R = (nameB (gD (d.f 4).l i).s && zAq (fun x => nameB x.s) (d.f 4).l j (i + 1) && zAq (everyL k) (d.f 3).l (d.f 3).l.length 0):=hR
     clear hR
     have hn1:=hname i hi
     repeat' (first
|apply s_wanted_pick_t rfl rfl rfl
 . conv => lhs; whnf
 . first | rfl | assumption
 . conv => lhs; whnf
 . first | exact bT1 ‹_› | exact bT2 ‹_› | rfl
|apply zAK rfl rfl rfl
 . conv => lhs; whnf
 . first | rfl | assumption
 . conv => lhs; whnf
 . first | exact bT1 ‹_› | exact bT2 ‹_› | rfl
|apply s_wanted_pick_f rfl rfl rfl
 . conv => lhs; whnf
 . first | rfl | assumption
 . conv => lhs; whnf
 . first | exact bF1 ‹_› | exact bF2 ‹_› | rfl
|apply zAL rfl rfl rfl
 . conv => lhs; whnf
 . first | rfl | assumption
 . conv => lhs; whnf
 . first | exact bF1 ‹_› | exact bF2 ‹_› | rfl
|apply zG
 . conv => lhs; whnf
 . assumption
|apply zF
 . conv => lhs; whnf
 . assumption
|refine ze ?_
|refine zY ?_
|refine zAP ?_
|refine zA ?_
|refine zI ?_
|refine zZ ?_
|refine zW ?_
|refine zi ?_
|apply aw_1
 conv => whnf
 refine ⟨?_,trivial⟩
|apply zn rfl rfl
 . conv => lhs; whnf
 . conv => lhs; whnf
 . first | exact bT1 ‹_› | exact bT2 ‹_›
|apply zl rfl rfl
 . conv => lhs; whnf
 . conv => lhs; whnf
 . first | exact bF1 ‹_› | exact bF2 ‹_›
|apply s_1
 conv => whnf; arg 1; arg 4; arg 3; whnf
 refine ⟨?_,?_⟩
|apply zAF rfl
 . conv => lhs; whnf
 . conv => lhs; whnf; arg 2; whnf
|apply zk rfl
 . conv => lhs; whnf
 . conv => lhs; whnf
 . first | exact hn1
|apply zAO rfl rfl rfl rfl
 . conv => lhs; whnf; arg 1; whnf
 . rfl
|apply zQ rfl
 . conv => lhs; whnf
 . conv => lhs; whnf
 . first | rfl | assumption
 . conv => lhs; whnf; arg 2; whnf
|apply zP rfl
 . conv => lhs; whnf
 . conv => lhs; whnf
 . first | rfl | assumption
 . conv => lhs; whnf
 . first | exact hn1
|apply zAB rfl
 . conv => lhs; whnf
 . conv => lhs; whnf
 . first | rfl | assumption
|apply zAm rfl
 . conv => lhs; whnf
 . rfl
 . rfl
|apply zb rfl
 . conv => lhs; whnf
 . conv => lhs; whnf
 . conv => lhs; whnf; arg 2; whnf
|apply zt rfl
 . conv => lhs; whnf
 . conv => lhs; whnf
 . conv => lhs; whnf
 . first | exact hn1
|apply zm rfl
 . conv => lhs; whnf
 . conv => lhs; whnf
 . conv => lhs; whnf; arg 2; whnf
|apply zg rfl
 . conv => lhs; whnf
 . conv => lhs; whnf
 . conv => lhs; whnf
 . first | exact hn1
|apply zS
 . conv => lhs; whnf; arg 1; arg 1; whnf
|apply zU
 . conv => lhs; whnf; arg 1; arg 1; whnf
|refine zd (by conv => lhs; whnf) ?_ ?_ <;> intro hb
|refine zv ?_
|refine zh ?_
|refine zJ ?_
|refine zK ?_
|refine zH ?_
|refine zE rfl ?_
|refine zM rfl ?_
|refine zL ?_
|refine zO ?_
|refine zC ?_
|refine zN ?_
|refine zAG ?_
|refine zB ?_
|refine ⟨_,by conv => lhs; whnf; arg 2; whnf,?_⟩; conv => rhs; whnf
|exact trivial
|intro hg)
     all_goals first
      | exact zu (by omega)
      | exact zx hi
      | (have e : nameB (gD (d.f 4).l i).s = false:=by simpa using (by assumption : (!nameB (gD (d.f 4).l i).s) = true)
         rw [hR',e]; rfl)
      | (have e : nameB (gD (d.f 4).l i).s = true:=by simpa using (by assumption : (!nameB (gD (d.f 4).l i).s) = false)
         exact za (j':=j) (by omega) ⟨i + 1,by omega,by rw [hR',e,Bool.true_and],Sub.live ⟨rfl,rfl,rfl,trivial⟩ ⟨rfl,trivial⟩⟩)
      | skip
   . obtain rfl : j = 0:=by omega
     have f1 : decide ((i : Int) < ((d.f 4).l.length : Nat)) = false:=decide_eq_false (by omega)
     have hR2 : R = zAq (everyL k) (d.f 3).l (d.f 3).l.length 0:=by rw [hR,zAq,Bool.true_and]
     clear hR
     repeat' (first
|apply zG
 . conv => lhs; whnf
 . assumption
|apply zF
 . conv => lhs; whnf
 . assumption
|refine ze ?_
|refine zY ?_
|refine zAP ?_
|refine zA ?_
|refine zI ?_
|refine zZ ?_
|refine zW ?_
|refine zi ?_
|apply aw_1
 conv => whnf
 refine ⟨?_,trivial⟩
|apply zn rfl rfl
 . conv => lhs; whnf
 . conv => lhs; whnf
 . first | exact bT1 ‹_› | exact bT2 ‹_›
|apply zl rfl rfl
 . conv => lhs; whnf
 . conv => lhs; whnf
 . first | exact bF1 ‹_› | exact bF2 ‹_›
|apply s_1
 conv => whnf; arg 1; arg 4; arg 3; whnf
 refine ⟨?_,?_⟩
|apply zAF rfl
 . conv => lhs; whnf
 . conv => lhs; whnf; arg 2; whnf
|apply zk rfl
 . conv => lhs; whnf
 . conv => lhs; whnf
 . first | fail
|apply zAO rfl rfl rfl rfl
 . conv => lhs; whnf; arg 1; whnf
 . rfl
|apply zQ rfl
 . conv => lhs; whnf
 . conv => lhs; whnf
 . first | rfl | assumption
 . conv => lhs; whnf; arg 2; whnf
|apply zP rfl
 . conv => lhs; whnf
 . conv => lhs; whnf
 . first | rfl | assumption
 . conv => lhs; whnf
 . first | fail
|apply zBM rfl
 . conv => lhs; whnf
 . conv => lhs; whnf
 . first | rfl | assumption
|apply zm rfl
 . conv => lhs; whnf
 . conv => lhs; whnf
 . conv => lhs; whnf; arg 2; whnf
|apply zg rfl
 . conv => lhs; whnf
 . conv => lhs; whnf
 . conv => lhs; whnf
 . first | fail
|apply zS
 . conv => lhs; whnf; arg 1; arg 1; whnf
|apply zU
 . conv => lhs; whnf; arg 1; arg 1; whnf
|refine zd (by conv => lhs; whnf) ?_ ?_ <;> intro hb
|refine zv ?_
|refine zh ?_
|refine zJ ?_
|refine zK ?_
|refine zH ?_
|refine zE rfl ?_
|refine zM rfl ?_
|refine zL ?_
|refine zO ?_
|refine zC ?_
|refine zN ?_
|refine zAG ?_
|refine zB ?_
|refine ⟨_,by conv => lhs; whnf; arg 2; whnf,?_⟩; conv => rhs; whnf
|exact trivial
|intro hg)
     refine z7 (fun j st => ∃ i,i + j = (d.f 3).l.length /\ R = zAq (everyL k) (d.f 3).l j i /\ Sub (cx EN Tryd.prog s w he) st (HWiU d i)) (d.f 3).l.length ⟨0,by omega,hR2,Sub.live ⟨rfl,rfl,rfl,trivial⟩ ⟨rfl,trivial⟩⟩ ?_
     clear hR2
     rintro j2 st2 ⟨i2,hij2,hR,hs2⟩
     refine zAA hs2 ?_
     clear hs2
     by_cases hi2 : i2 < (d.f 3).l.length
     . obtain ⟨j2,rfl⟩ : ∃ q,j2 = q + 1:=⟨j2 - 1,by omega⟩
       have f2 : decide ((i2 : Int) < ((d.f 3).l.length : Nat)) = true:=decide_eq_true (by omega)
       have hR' : R = (everyL k (gD (d.f 3).l i2) && zAq (everyL k) (d.f 3).l j2 (i2 + 1)):=hR
       have ih2:=ih i2 hi2
       repeat' (first
|apply s_wanted_pick_t rfl rfl rfl
 . conv => lhs; whnf
 . first | rfl | assumption
 . conv => lhs; whnf
 . first | exact bT1 ‹_› | exact bT2 ‹_› | rfl
|apply zAK rfl rfl rfl
 . conv => lhs; whnf
 . first | rfl | assumption
 . conv => lhs; whnf
 . first | exact bT1 ‹_› | exact bT2 ‹_› | rfl
|apply s_wanted_pick_f rfl rfl rfl
 . conv => lhs; whnf
 . first | rfl | assumption
 . conv => lhs; whnf
 . first | exact bF1 ‹_› | exact bF2 ‹_› | rfl
|apply zAL rfl rfl rfl
 . conv => lhs; whnf
 . first | rfl | assumption
 . conv => lhs; whnf
 . first | exact bF1 ‹_› | exact bF2 ‹_› | rfl
|apply zG
 . conv => lhs; whnf
 . assumption
|apply zF
 . conv => lhs; whnf
 . assumption
|refine ze ?_
|refine zY ?_
|refine zAP ?_
|refine zA ?_
|refine zI ?_
|refine zZ ?_
|refine zW ?_
|refine zi ?_
|apply aw_1
 conv => whnf
 refine ⟨?_,trivial⟩
|apply zn rfl rfl
 . conv => lhs; whnf
 . conv => lhs; whnf
 . first | exact bT1 ‹_› | exact bT2 ‹_›
|apply zl rfl rfl
 . conv => lhs; whnf
 . conv => lhs; whnf
 . first | exact bF1 ‹_› | exact bF2 ‹_›
|apply s_1
 conv => whnf; arg 1; arg 4; arg 3; whnf
 refine ⟨?_,?_⟩
|apply zAF rfl
 . conv => lhs; whnf
 . conv => lhs; whnf; arg 2; whnf
|apply zk rfl
 . conv => lhs; whnf
 . conv => lhs; whnf
 . first | exact ih2
|apply zAO rfl rfl rfl rfl
 . conv => lhs; whnf; arg 1; whnf
 . rfl
|apply zQ rfl
 . conv => lhs; whnf
 . conv => lhs; whnf
 . first | rfl | assumption
 . conv => lhs; whnf; arg 2; whnf
|apply zP rfl
 . conv => lhs; whnf
 . conv => lhs; whnf
 . first | rfl | assumption
 . conv => lhs; whnf
 . first | exact ih2
|apply zAB rfl
 . conv => lhs; whnf
 . conv => lhs; whnf
 . first | rfl | assumption
|apply zAm rfl
 . conv => lhs; whnf
 . rfl
 . rfl
|apply zb rfl
 . conv => lhs; whnf
 . conv => lhs; whnf
 . conv => lhs; whnf; arg 2; whnf
|apply zt rfl
 . conv => lhs; whnf
 . conv => lhs; whnf
 . conv => lhs; whnf
 . first | exact ih2
|apply zm rfl
 . conv => lhs; whnf
 . conv => lhs; whnf
 . conv => lhs; whnf; arg 2; whnf
|apply zg rfl
 . conv => lhs; whnf
 . conv => lhs; whnf
 . conv => lhs; whnf
 . first | exact ih2
|apply zS
 . conv => lhs; whnf; arg 1; arg 1; whnf
|apply zU
 . conv => lhs; whnf; arg 1; arg 1; whnf
|refine zd (by conv => lhs; whnf) ?_ ?_ <;> intro hb
|refine zv ?_
|refine zh ?_
|refine zJ ?_
|refine zK ?_
|refine zH ?_
|refine zE rfl ?_
|refine zM rfl ?_
|refine zL ?_
|refine zO ?_
|refine zC ?_
|refine zN ?_
|refine zAG ?_
|refine zB ?_
|refine ⟨_,by conv => lhs; whnf; arg 2; whnf,?_⟩; conv => rhs; whnf
|exact trivial
|intro hg)
       all_goals first
        | exact zu (by omega)
        | exact zx hi2
        | (have e : everyL k (gD (d.f 3).l i2) = false:=by simpa using (by assumption : (!everyL k (gD (d.f 3).l i2)) = true)
           rw [hR',e]; rfl)
        | (have e : everyL k (gD (d.f 3).l i2) = true:=by simpa using (by assumption : (!everyL k (gD (d.f 3).l i2)) = false)
           exact za (j':=j2) (by omega) ⟨i2 + 1,by omega,by rw [hR',e,Bool.true_and],Sub.live ⟨rfl,rfl,rfl,trivial⟩ ⟨rfl,trivial⟩⟩)
        | skip
     . obtain rfl : j2 = 0:=by omega
       have f2 : decide ((i2 : Int) < ((d.f 3).l.length : Nat)) = false:=decide_eq_false (by omega)
       repeat' (first
|apply zG
 . conv => lhs; whnf
 . assumption
|apply zF
 . conv => lhs; whnf
 . assumption
|refine ze ?_
|refine zY ?_
|refine zAP ?_
|refine zA ?_
|refine zI ?_
|refine zZ ?_
|refine zW ?_
|refine zi ?_
|apply aw_1
 conv => whnf
 refine ⟨?_,trivial⟩
|apply zn rfl rfl
 . conv => lhs; whnf
 . conv => lhs; whnf
 . first | exact bT1 ‹_› | exact bT2 ‹_›
|apply zl rfl rfl
 . conv => lhs; whnf
 . conv => lhs; whnf
 . first | exact bF1 ‹_› | exact bF2 ‹_›
|apply s_1
 conv => whnf; arg 1; arg 4; arg 3; whnf
 refine ⟨?_,?_⟩
|apply zAF rfl
 . conv => lhs; whnf
 . conv => lhs; whnf; arg 2; whnf
|apply zk rfl
 . conv => lhs; whnf
 . conv => lhs; whnf
 . first | fail
|apply zAO rfl rfl rfl rfl
 . conv => lhs; whnf; arg 1; whnf
 . rfl
|apply zQ rfl
 . conv => lhs; whnf
 . conv => lhs; whnf
 . first | rfl | assumption
 . conv => lhs; whnf; arg 2; whnf
|apply zP rfl
 . conv => lhs; whnf
 . conv => lhs; whnf
 . first | rfl | assumption
 . conv => lhs; whnf
 . first | fail
|apply zBM rfl
 . conv => lhs; whnf
 . conv => lhs; whnf
 . first | rfl | assumption
|apply zm rfl
 . conv => lhs; whnf
 . conv => lhs; whnf
 . conv => lhs; whnf; arg 2; whnf
|apply zg rfl
 . conv => lhs; whnf
 . conv => lhs; whnf
 . conv => lhs; whnf
 . first | fail
|apply zS
 . conv => lhs; whnf; arg 1; arg 1; whnf
|apply zU
 . conv => lhs; whnf; arg 1; arg 1; whnf
|refine zd (by conv => lhs; whnf) ?_ ?_ <;> intro hb
|refine zv ?_
|refine zh ?_
|refine zJ ?_
|refine zK ?_
|refine zH ?_
|refine zE rfl ?_
|refine zM rfl ?_
|refine zL ?_
|refine zO ?_
|refine zC ?_
|refine zN ?_
|refine zAG ?_
|refine zB ?_
|refine ⟨_,by conv => lhs; whnf; arg 2; whnf,?_⟩; conv => rhs; whnf
|exact trivial
|intro hg)
       rw [hR]; rfl
theorem zH5 (d : D) : AC EN Tryd.prog 59 [.agg (cellsV Tryd.prog 12 44 d)] (.c (.bool (litW d))):=by
 have h:=zBS (bulkD d) d (Nat.le_refl _)
 have h1:=zGL _ d h
 have h2:=zFQ _ d h
 have h3:=zE0 _ d h
 unfold litW
 refine zV 15 Tryd.func59 rfl rfl rfl rfl ?_
 intro s w he
 repeat' (first
|apply s_wanted_pick_t rfl rfl rfl
 . conv => lhs; whnf
 . first | rfl | assumption
 . conv => lhs; whnf
 . first | exact bT1 ‹_› | exact bT2 ‹_› | rfl
|apply zAK rfl rfl rfl
 . conv => lhs; whnf
 . first | rfl | assumption
 . conv => lhs; whnf
 . first | exact bT1 ‹_› | exact bT2 ‹_› | rfl
|apply s_wanted_pick_f rfl rfl rfl
 . conv => lhs; whnf
 . first | rfl | assumption
 . conv => lhs; whnf
 . first | exact bF1 ‹_› | exact bF2 ‹_› | rfl
|apply zAL rfl rfl rfl
 . conv => lhs; whnf
 . first | rfl | assumption
 . conv => lhs; whnf
 . first | exact bF1 ‹_› | exact bF2 ‹_› | rfl
|refine zA ?_
|refine zI ?_
|refine zZ ?_
|refine zW ?_
|refine zi ?_
|apply aw_1
 conv => whnf
 refine ⟨?_,trivial⟩
|apply zn rfl rfl
 . conv => lhs; whnf
 . conv => lhs; whnf
 . first | exact bT1 ‹_› | exact bT2 ‹_›
|apply zl rfl rfl
 . conv => lhs; whnf
 . conv => lhs; whnf
 . first | exact bF1 ‹_› | exact bF2 ‹_›
|apply s_1
 conv => whnf; arg 1; arg 4; arg 3; whnf
 refine ⟨?_,?_⟩
|apply zAF rfl
 . conv => lhs; whnf
 . conv => lhs; whnf; arg 2; whnf
|apply zk rfl
 . conv => lhs; whnf
 . conv => lhs; whnf
 . first | exact h1 | exact h2 | exact h3
|apply zAO rfl rfl rfl rfl
 . conv => lhs; whnf; arg 1; whnf
 . rfl
|apply zQ rfl
 . conv => lhs; whnf
 . conv => lhs; whnf
 . first | rfl | assumption
 . conv => lhs; whnf; arg 2; whnf
|apply zP rfl
 . conv => lhs; whnf
 . conv => lhs; whnf
 . first | rfl | assumption
 . conv => lhs; whnf
 . first | exact h1 | exact h2 | exact h3
|apply zAB rfl
 . conv => lhs; whnf
 . conv => lhs; whnf
 . first | rfl | assumption
|apply zAm rfl
 . conv => lhs; whnf
 . rfl
 . rfl
|apply zb rfl
 . conv => lhs; whnf
 . conv => lhs; whnf
 . conv => lhs; whnf; arg 2; whnf
|apply zt rfl
 . conv => lhs; whnf
 . conv => lhs; whnf
 . conv => lhs; whnf
 . first | exact h1 | exact h2 | exact h3
|apply zm rfl
 . conv => lhs; whnf
 . conv => lhs; whnf
 . conv => lhs; whnf; arg 2; whnf
|apply zg rfl
 . conv => lhs; whnf
 . conv => lhs; whnf
 . conv => lhs; whnf
 . first | exact h1 | exact h2 | exact h3
|apply zS
 . conv => lhs; whnf; arg 1; arg 1; whnf
|apply zU
 . conv => lhs; whnf; arg 1; arg 1; whnf
|refine zd (by conv => lhs; whnf) ?_ ?_ <;> intro hb
|refine zv ?_
|refine zh ?_
|refine zJ ?_
|refine zK ?_
|refine zH ?_
|refine zE rfl ?_
|refine zM rfl ?_
|refine zL ?_
|refine zO ?_
|refine zC ?_
|refine zN ?_
|refine zAG ?_
|refine zB ?_
|refine ⟨_,by conv => lhs; whnf; arg 2; whnf,?_⟩; conv => rhs; whnf
|exact trivial
|intro hg)
 all_goals
  clear h1 h2 h3 he
  refine congrArg (fun b => V.c (.bool b)) ?_
  simp_all
  try (intros; omega)
end Go.Proofs.YtdlnnlglmifceaaDoor
namespace Go.Proofs.YtdlnnlglmifceaaDoor
open Go.RowKit
set_option linter.unusedSectionVars false
theorem zCY (f : Nat -> List UInt8) (i : Nat) : flatN f (i + 1) = flatN f i ++ f i:=rfl
theorem zAi {a b : ByteArray} (h : tx a = tx b) : V.c (.string a) = V.c (.string b):=by rw [<- zDf a,h,zDf]
theorem zAh (l : List UInt8) : tx ({ data:=l.toArray } : ByteArray) = l:=rfl
attribute [local irreducible] wpList Calls Code.wp AW AWo OpOk seqK zAf zAj loopK endK AC zAH Yld Sub
attribute [local irreducible] ACB ACX YldG absLexH
end Go.Proofs.YtdlnnlglmifceaaDoor
