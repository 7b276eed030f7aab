import Derived.Test.YtdlnnlglmifceaaGreatDoorQ32
set_option maxHeartbeats 8000000
set_option maxRecDepth 100000
set_option linter.unusedVariables false
set_option linter.unusedSimpArgs false
namespace Go.Proofs.YtdlnnlglmifceaaGreatDoor
open Go.RowKit
set_option linter.unusedSectionVars false
def nullB (d : D) : Bool:=(d.f 0).n == 0 && (d.f 1).n == 0 && ((d.f 2).s.data.toList == []) && decide ((d.f 3).l.length = 0) && decide ((d.f 4).l.length = 0)
theorem null_valW (d : D) : nullB d = (valY litW d && (d.f 0).n == 0):=by
 obtain ⟨b,hb⟩ : ∃ b,bulkD d = b + 1:=⟨bulkD d - 1,by have:=zBc d; omega⟩
 have hs : zD5 (b + 1) d = IntKind.i64.wrap ((1 + sumN (fun i => sizeR b (gD (d.f 3).l i)) (d.f 3).l.length : Nat) : Int):=rfl
 have hd : zB4 (b + 1) d = IntKind.i64.wrap (maxW (fun i => zB4 b (gD (d.f 3).l i)) (d.f 3).l.length + 1):=rfl
 have he : everyL (b + 1) d = (nodeL d && !((d.f 3).l.any fun x => !everyL b x)):=rfl
 have hr : bareR (b + 1) d = (!((d.f 0).n == 7) && !((d.f 3).l.any fun x => !bareR b x)):=rfl
 rw [Bool.eq_iff_iff]
 constructor
 . intro h
   unfold nullB at h
   simp only [Bool.and_eq_true,beq_iff_eq,decide_eq_true_eq] at h
   obtain ⟨⟨⟨⟨h0,h1⟩,h2⟩,h3⟩,h4⟩:=h
   have z3:=List.eq_nil_of_length_eq_zero h3
   have z4:=List.eq_nil_of_length_eq_zero h4
   unfold valY litW
   rw [hb,hs,hd,he,hr,h3,z3]
   have hn : nodeL d = true:=by
    unfold nodeL
    rw [h0,h1,h2,h3,h4,show strsR d = [] by unfold strsR; rw [z4]; rfl,z4]
    rfl
   rw [hn,h0]; rfl
 . intro h
   rw [Bool.and_eq_true,beq_iff_eq] at h
   obtain ⟨h,h0⟩:=h
   unfold valY litW at h
   rw [hb,he] at h
   simp only [Bool.and_eq_true] at h
   have hx:=xnode h.1.2.1
   unfold nullB
   rw [h0]
   have q1 : (d.f 1).n = 0:=by rcases hx.int0 with h | h | h <;> omega
   have q2 : tx (d.f 2).s = []:=by rcases hx.txt0 with h | h | h | h <;> first | exact h | omega
   have q3 : (d.f 3).l.length = 0:=by rcases hx.items0 with h | h | h <;> omega
   have q4 : (d.f 4).l.length = 0:=by rcases hx.keys0 with h | h <;> omega
   have q2 : (d.f 2).s.data.toList = []:=q2
   rw [q1,q2,q3,q4]; rfl
attribute [local irreducible] wpList Calls Code.wp AW AWo OpOk seqK zAP zAR loopK endK AC zy Yld Sub
attribute [local irreducible] ACB ACX ACE absLexG YldG
noncomputable def HTfU (d : D) (i : Nat) : Vst 54:=stS 54 [(1,.bx 1 0),(3,.c (.int .i64 (i : Int)))] [(1,.box 59 (cellsV Tryz.prog 12 59 d))]
theorem refFU_ac (d : D) : AC EN Tryz.prog 55 [.agg (cellsV Tryz.prog 12 59 d)] (.c (.bool (refR d))):=by
 refine zCP 2 (by kernel_rfl) fun hL2 => ?_
 have hl : (d.f 1).l.length <= 9223372036854775807:=len_ref hL2
 clear hL2
 have hn:=zAk (d.f 0).s
 have hR : refR d = (nameB (d.f 0).s && decide ((d.f 1).l.length <= 24) && wrapsI (d.f 1).l (d.f 1).l.length 0):=by rw [zFH]; rfl
 generalize refR d = R at hR |-
 have e : decide (((d.f 1).l.length : Int) > 24) = !decide ((d.f 1).l.length <= 24):=by
  rw [Bool.eq_iff_iff]
  simp only [decide_eq_true_eq,Bool.not_eq_true',decide_eq_false_iff_not]
  omega
 refine zX 54 Tryz.func55 rfl rfl rfl rfl ?_
 intro s w he
 repeat' (first
|apply s_wanted_pick_t rfl rfl rfl
 . conv => lhs; whnf
 . first | rfl | assumption
 . conv => lhs; whnf
 . first | exact bT1 ‹_› | exact bT2 ‹_› | rfl
|apply zq rfl rfl rfl
 . conv => lhs; whnf
 . first | rfl | assumption
 . conv => lhs; whnf
 . first | exact bT1 ‹_› | exact bT2 ‹_› | rfl
|apply s_wanted_pick_f rfl rfl rfl
 . conv => lhs; whnf
 . first | rfl | assumption
 . conv => lhs; whnf
 . first | exact bF1 ‹_› | exact bF2 ‹_› | rfl
|apply zu rfl rfl rfl
 . conv => lhs; whnf
 . first | rfl | assumption
 . conv => lhs; whnf
 . first | exact bF1 ‹_› | exact bF2 ‹_› | rfl
|refine zA ?_
|refine zI ?_
|refine zb ?_
|refine zU ?_
|refine za ?_
|apply aw_1
 conv => whnf
 refine ⟨?_,trivial⟩
|apply zg rfl rfl
 . conv => lhs; whnf
 . conv => lhs; whnf
 . first | exact bT1 ‹_› | exact bT2 ‹_›
|apply ze rfl rfl
 . conv => lhs; whnf
 . conv => lhs; whnf
 . first | exact bF1 ‹_› | exact bF2 ‹_›
|apply s_1
 conv => whnf; arg 1; arg 4; arg 3; whnf
 refine ⟨?_,?_⟩
|apply zt rfl
 . conv => lhs; whnf
 . conv => lhs; whnf; arg 2; whnf
|apply zd rfl
 . conv => lhs; whnf
 . conv => lhs; whnf
 . first | exact hn
|apply zAC rfl rfl rfl rfl
 . conv => lhs; whnf; arg 1; whnf
 . rfl
|apply zM rfl
 . conv => lhs; whnf
 . conv => lhs; whnf
 . first | rfl | assumption
 . conv => lhs; whnf; arg 2; whnf
|apply zR rfl
 . conv => lhs; whnf
 . conv => lhs; whnf
 . first | rfl | assumption
 . conv => lhs; whnf
 . first | exact hn
|apply zl rfl
 . conv => lhs; whnf
 . conv => lhs; whnf
 . first | rfl | assumption
|apply zAI rfl
 . conv => lhs; whnf
 . rfl
 . rfl
|apply zP rfl
 . conv => lhs; whnf
 . conv => lhs; whnf
 . conv => lhs; whnf; arg 2; whnf
|apply zp rfl
 . conv => lhs; whnf
 . conv => lhs; whnf
 . conv => lhs; whnf
 . first | exact hn
|apply zn rfl
 . conv => lhs; whnf
 . conv => lhs; whnf
 . conv => lhs; whnf; arg 2; whnf
|apply zk rfl
 . conv => lhs; whnf
 . conv => lhs; whnf
 . conv => lhs; whnf
 . first | exact hn
|apply zN
 . conv => lhs; whnf; arg 1; arg 1; whnf
|apply zO
 . conv => lhs; whnf; arg 1; arg 1; whnf
|refine zT (by conv => lhs; whnf) ?_ ?_ <;> intro hb
|refine zj ?_
|refine zZ ?_
|refine zG ?_
|refine zK ?_
|refine zC ?_
|refine zB rfl ?_
|refine zE rfl ?_
|refine zF ?_
|refine zJ ?_
|refine zD ?_
|refine zL ?_
|refine z6 ?_
|refine zH ?_
|refine ⟨_,by conv => lhs; whnf; arg 2; whnf,?_⟩; conv => rhs; whnf
|exact trivial
|intro hg)
 . simp_all
   intros
   omega
 . have hR2 : R = wrapsI (d.f 1).l (d.f 1).l.length 0:=by simp_all
   clear hR hn
   refine z7 (fun j st => ∃ i,i + j = (d.f 1).l.length /\ R = wrapsI (d.f 1).l j i /\ Sub (cx EN Tryz.prog s w he) st (HTfU d i)) (d.f 1).l.length ⟨0,by omega,hR2,Sub.live ⟨rfl,rfl,trivial⟩ ⟨rfl,trivial⟩⟩ ?_
   clear hR2 hg hb e
   rintro j st ⟨i,hij,hR,hs2⟩
   refine z8 hs2 ?_
   clear hs2
   by_cases hi : i < (d.f 1).l.length
   . obtain ⟨j,rfl⟩ : ∃ q,j = q + 1:=⟨j - 1,by omega⟩
     have f1 : decide ((i : Int) < ((d.f 1).l.length : Nat)) = true:=decide_eq_true (by omega)
     have e1 : decide ((i : Int) > 0) = decide (0 < i):=decide_eq_decide.2 (by omega)
     have eT : ((i : Int) - 1).toNat = i - 1:=by omega
     have hR' : R = (((gD (d.f (0 + 1)).l (i : Int).toNat).n == 1 || (gD (d.f (0 + 1)).l (i : Int).toNat).n == 2) && !((gD (d.f (0 + 1)).l (i : Int).toNat).n == 1 && decide ((i : Int) > 0) && ((gD (d.f (0 + 1)).l ((i : Int) - 1).toNat).n == (gD (d.f (0 + 1)).l (i : Int).toNat).n)) && wrapsI (d.f 1).l j (i + 1)):=by
      rw [hR,e1,eT,Int.toNat_natCast]; rfl
     clear hR e1
     repeat' (first
|apply s_wanted_pick_t rfl rfl rfl
 . conv => lhs; whnf
 . first | rfl | assumption
 . conv => lhs; whnf
 . first | exact bT1 ‹_› | exact bT2 ‹_› | rfl
|apply zq rfl rfl rfl
 . conv => lhs; whnf
 . first | rfl | assumption
 . conv => lhs; whnf
 . first | exact bT1 ‹_› | exact bT2 ‹_› | rfl
|apply s_wanted_pick_f rfl rfl rfl
 . conv => lhs; whnf
 . first | rfl | assumption
 . conv => lhs; whnf
 . first | exact bF1 ‹_› | exact bF2 ‹_› | rfl
|apply zu rfl rfl rfl
 . conv => lhs; whnf
 . first | rfl | assumption
 . conv => lhs; whnf
 . first | exact bF1 ‹_› | exact bF2 ‹_› | rfl
|apply zW
 . conv => lhs; whnf
 . assumption
|apply zS
 . conv => lhs; whnf
 . assumption
|refine zi ?_
|refine zf ?_
|refine zAH ?_
|refine zA ?_
|refine zI ?_
|refine zb ?_
|refine zU ?_
|refine za ?_
|apply aw_1
 conv => whnf
 refine ⟨?_,trivial⟩
|apply zg rfl rfl
 . conv => lhs; whnf
 . conv => lhs; whnf
 . first | exact bT1 ‹_› | exact bT2 ‹_›
|apply ze rfl rfl
 . conv => lhs; whnf
 . conv => lhs; whnf
 . first | exact bF1 ‹_› | exact bF2 ‹_›
|apply s_1
 conv => whnf; arg 1; arg 4; arg 3; whnf
 refine ⟨?_,?_⟩
|apply zt rfl
 . conv => lhs; whnf
 . conv => lhs; whnf; arg 2; whnf
|apply zd rfl
 . conv => lhs; whnf
 . conv => lhs; whnf
 . first | fail
|apply zAC rfl rfl rfl rfl
 . conv => lhs; whnf; arg 1; whnf
 . rfl
|apply zM rfl
 . conv => lhs; whnf
 . conv => lhs; whnf
 . first | rfl | assumption
 . conv => lhs; whnf; arg 2; whnf
|apply zR rfl
 . conv => lhs; whnf
 . conv => lhs; whnf
 . first | rfl | assumption
 . conv => lhs; whnf
 . first | fail
|apply zl rfl
 . conv => lhs; whnf
 . conv => lhs; whnf
 . first | rfl | assumption
|apply zAI rfl
 . conv => lhs; whnf
 . rfl
 . rfl
|apply zP rfl
 . conv => lhs; whnf
 . conv => lhs; whnf
 . conv => lhs; whnf; arg 2; whnf
|apply zp rfl
 . conv => lhs; whnf
 . conv => lhs; whnf
 . conv => lhs; whnf
 . first | fail
|apply zn rfl
 . conv => lhs; whnf
 . conv => lhs; whnf
 . conv => lhs; whnf; arg 2; whnf
|apply zk rfl
 . conv => lhs; whnf
 . conv => lhs; whnf
 . conv => lhs; whnf
 . first | fail
|apply zN
 . conv => lhs; whnf; arg 1; arg 1; whnf
|apply zO
 . conv => lhs; whnf; arg 1; arg 1; whnf
|refine zT (by conv => lhs; whnf) ?_ ?_ <;> intro hb
|refine zj ?_
|refine zZ ?_
|refine zG ?_
|refine zK ?_
|refine zC ?_
|refine zB rfl ?_
|refine zE rfl ?_
|refine zF ?_
|refine zJ ?_
|refine zD ?_
|refine zL ?_
|refine z6 ?_
|refine zH ?_
|refine ⟨_,by conv => lhs; whnf; arg 2; whnf,?_⟩; conv => rhs; whnf
|exact trivial
|intro hg)
     all_goals first
      | exact zo (by omega)
      | exact zBM hi
      | (have h0 : (i : Int) > 0:=by simp_all
         exact (show 0 <= (i : Int) - 1 /\ (i : Int) - 1 < (((d.f 1).l.length : Nat) : Int) from ⟨by omega,by omega⟩))
      | (have h0 : (i : Int) > 0:=by simp_all
         exact zo (by omega))
      | (have hN : R = wrapsI (d.f 1).l j (i + 1):=by simp_all
         exact zh (j':=j) (by omega) ⟨i + 1,by omega,hN,Sub.live ⟨rfl,rfl,trivial⟩ ⟨rfl,trivial⟩⟩)
      | skip
     all_goals
      refine congrArg (fun b => V.c (.bool b)) ?_
      clear eT f1 hi hij he
      simp_all
   . obtain rfl : j = 0:=by omega
     have f1 : decide ((i : Int) < ((d.f 1).l.length : Nat)) = false:=decide_eq_false (by omega)
     repeat' (first
|apply zW
 . conv => lhs; whnf
 . assumption
|apply zS
 . conv => lhs; whnf
 . assumption
|refine zi ?_
|refine zf ?_
|refine zAH ?_
|refine zA ?_
|refine zI ?_
|refine zb ?_
|refine zU ?_
|refine za ?_
|apply aw_1
 conv => whnf
 refine ⟨?_,trivial⟩
|apply zg rfl rfl
 . conv => lhs; whnf
 . conv => lhs; whnf
 . first | exact bT1 ‹_› | exact bT2 ‹_›
|apply ze rfl rfl
 . conv => lhs; whnf
 . conv => lhs; whnf
 . first | exact bF1 ‹_› | exact bF2 ‹_›
|apply s_1
 conv => whnf; arg 1; arg 4; arg 3; whnf
 refine ⟨?_,?_⟩
|apply zt rfl
 . conv => lhs; whnf
 . conv => lhs; whnf; arg 2; whnf
|apply zd rfl
 . conv => lhs; whnf
 . conv => lhs; whnf
 . first | fail
|apply zAC rfl rfl rfl rfl
 . conv => lhs; whnf; arg 1; whnf
 . rfl
|apply zM rfl
 . conv => lhs; whnf
 . conv => lhs; whnf
 . first | rfl | assumption
 . conv => lhs; whnf; arg 2; whnf
|apply zR rfl
 . conv => lhs; whnf
 . conv => lhs; whnf
 . first | rfl | assumption
 . conv => lhs; whnf
 . first | fail
|apply zB3 rfl
 . conv => lhs; whnf
 . conv => lhs; whnf
 . first | rfl | assumption
|apply zn rfl
 . conv => lhs; whnf
 . conv => lhs; whnf
 . conv => lhs; whnf; arg 2; whnf
|apply zk rfl
 . conv => lhs; whnf
 . conv => lhs; whnf
 . conv => lhs; whnf
 . first | fail
|apply zN
 . conv => lhs; whnf; arg 1; arg 1; whnf
|apply zO
 . conv => lhs; whnf; arg 1; arg 1; whnf
|refine zT (by conv => lhs; whnf) ?_ ?_ <;> intro hb
|refine zj ?_
|refine zZ ?_
|refine zG ?_
|refine zK ?_
|refine zC ?_
|refine zB rfl ?_
|refine zE rfl ?_
|refine zF ?_
|refine zJ ?_
|refine zD ?_
|refine zL ?_
|refine z6 ?_
|refine zH ?_
|refine ⟨_,by conv => lhs; whnf; arg 2; whnf,?_⟩; conv => rhs; whnf
|exact trivial
|intro hg)
     rw [hR]; rfl
 . simp_all
end Go.Proofs.YtdlnnlglmifceaaGreatDoor
namespace Go.Proofs.YtdlnnlglmifceaaGreatDoor
open Go.RowKit
def zDi (d : D) : Bool:=nameB (d.f 0).s && litW (d.f 1)
def argsB8 (l : List D) : Bool:=decide (l.length <= 16) && !(l.any fun x => !zDi x)
def zDg (d : D) : Bool:=nameB (d.f 0).s && argsB8 (d.f 1).l
def dirsB8 (l : List D) : Bool:=decide (l.length <= 16) && !(l.any fun x => !zDg x)
def selB8 : Nat -> Nat -> D -> Bool
 | 0,_,_ => false
 | k + 1,lv,d => argsB8 (d.f 4).l && dirsB8 (d.f 5).l &&
   (if (d.f 0).n = 1 then noneS (d.f 3).s && nameB (d.f 2).s && (noneS (d.f 1).s || nameB (d.f 1).s) && selsR (selB8 k (lv + 1)) (d.f 6).l 0 (lv + 1)
   else if (d.f 0).n = 2 then noneS (d.f 3).s && noneS (d.f 1).s && decide ((d.f 4).l.length = 0) && decide ((d.f 6).l.length = 0) && titleR (d.f 2).s
   else if (d.f 0).n = 3 then noneS (d.f 1).s && noneS (d.f 2).s && decide ((d.f 4).l.length = 0) && (noneS (d.f 3).s || nameB (d.f 3).s) && selsR (selB8 k (lv + 1)) (d.f 6).l 1 (lv + 1)
   else false)
def setB8 (l : List D) : Bool:=selsR (selB8 (bulkL l) 1) l 1 1
def zDc (d : D) : Bool:=nameB (d.f 0).s && refR (d.f 1) &&
 (if (d.f 2).b = true then litW (d.f 3) && bareR (bulkD (d.f 3)) (d.f 3)
 else (((d.f 3).f 0).n == 0 && ((d.f 3).f 1).n == 0 && noneS ((d.f 3).f 2).s && decide (((d.f 3).f 3).l.length = 0)) && decide (((d.f 3).f 4).l.length = 0))
def opB8 (d : D) : Bool:=decide (1 <= (d.f 0).n /\ (d.f 0).n <= 3) && (noneS (d.f 1).s || nameB (d.f 1).s) && decide ((d.f 2).l.length <= 16) && !((d.f 2).l.any fun x => !zDc x) && setB8 (d.f 3).l
def fragB8 (d : D) : Bool:=titleR (d.f 0).s && nameB (d.f 1).s && setB8 (d.f 2).l
def nW (a b : List D) : Int:=IntKind.i64.wrap ((a.length : Int) + (b.length : Int))
def queB8 (a b : List D) : Bool:=(decide (1 <= nW a b) && decide (nW a b <= 64)) && a.all opB8 && b.all fragB8
theorem lit_nullW {v : D} (hn : (v.f 0).n = 0) : (litW v && bareR (bulkD v) v) = (((v.f 1).n == 0 && noneS (v.f 2).s && decide ((v.f 3).l.length = 0)) && decide ((v.f 4).l.length = 0)):=by
 have h:=null_valW v
 unfold nullB at h
 rw [hn] at h
 have h0 : ((0 : Int) == 0) = true:=rfl
 rw [h0,Bool.true_and,Bool.and_true] at h
 unfold noneS
 rw [h]; rfl
def zB9 (d : D) : Bool:=nameB (d.f 0).s && refR (d.f 1) && litW (d.f 3) && bareR (bulkD (d.f 3)) (d.f 3) && ((d.f 2).b || ((d.f 3).f 0).n == 0)
theorem varB8F_Q (d : D) : zB9 d = zDc d:=by
 unfold zB9 zDc
 by_cases h : (d.f 2).b = true
 . rw [if_pos h,h]
   generalize nameB (d.f 0).s = a1
   generalize refR (d.f 1) = a2
   cases a1 <;> cases a2 <;> simp
 . have hb : (d.f 2).b = false:=by simpa using h
   rw [if_neg h,hb]
   by_cases hn : ((d.f 3).f 0).n = 0
   . have e:=lit_nullW hn
     rw [hn]
     generalize litW (d.f 3) = b1 at *
     generalize bareR (bulkD (d.f 3)) (d.f 3) = b2 at *
     have z : ((0 : Int) == 0) = true:=rfl
     rw [z]
     simp only [Bool.false_or,Bool.and_true,Bool.true_and]
     rw [Bool.and_assoc (nameB (d.f 0).s && refR (d.f 1)) b1 b2,e]
   . have : (((d.f 3).f 0).n == 0) = false:=by simpa using hn
     rw [this]
     simp
theorem le16B8 (n : Nat) : decide ((n : Int) <= 16) = decide (n <= 16):=decide_eq_decide.2 (by omega)
theorem zGu (p : D -> Bool) (l : List D) (lv : Nat) : selsR p l 0 lv = (decide (l.length = 0) || selsR p l 1 lv):=by
 unfold selsR
 cases l with
 | nil => simp
 | cons x r => simp
theorem selsB8_one (p : D -> Bool) (l : List D) (lv : Nat) : selsR p l 1 lv = (!decide (l.length = 0) && decide (l.length <= 64) && decide (lv <= 24) && allIU p l l.length 0):=by
 rw [zBd]
 unfold selsR
 cases l with
 | nil => simp
 | cons x r => simp
end Go.Proofs.YtdlnnlglmifceaaGreatDoor
namespace Go.Proofs.YtdlnnlglmifceaaGreatDoor
open Go.RowKit
set_option linter.unusedSectionVars false
attribute [local irreducible] wpList Calls Code.wp AW AWo OpOk seqK zAP zAR loopK endK AC zy Yld Sub
attribute [local irreducible] ACB ACX ACE absLexG YldG
theorem zGi : ∀ (k : Nat) (d : D),Dp k d -> AC EN5 Tryz.prog 48 [.agg (cellsV Tryz.prog 12 62 d)] (.c (.bool (bareR k d)))
 | 0,_,h => h.elim
 | k + 1,d,h => by
   refine zCP 2 (by kernel_rfl) fun hL => ?_
   have hl : (d.f 3).l.length <= 9223372036854775807:=(zBm hL).1
   clear hL
   have hc:=zER (d.f 3).l (fun x => !bareR k x) hl fun i hi => bare1_ac _ _ (zGi k _ (h i hi))
   have e : bareR (k + 1) d = (!((d.f 0).n == 7) && !((d.f 3).l.any fun x => !bareR k x)):=rfl
   rw [e]
   refine zX 12 Tryz.func48 rfl rfl rfl rfl ?_
   intro s w he
   repeat' (first
|refine zA ?_
|refine zI ?_
|refine zb ?_
|apply aw_1
 conv => whnf
 refine ⟨?_,trivial⟩
|apply zg rfl rfl
 . conv => lhs; whnf
 . conv => lhs; whnf
 . first | exact bT1 ‹_› | exact bT2 ‹_›
|apply ze rfl rfl
 . conv => lhs; whnf
 . conv => lhs; whnf
 . first | exact bF1 ‹_› | exact bF2 ‹_›
|apply s_1
 conv => whnf; arg 1; arg 4; arg 3; whnf
 refine ⟨?_,?_⟩
|apply zAC rfl rfl rfl rfl
 . conv => lhs; whnf; arg 1; whnf
 . rfl
|apply zM rfl
 . conv => lhs; whnf
 . conv => lhs; whnf
 . first | rfl | assumption
 . conv => lhs; whnf; arg 2; whnf
|apply zR rfl
 . conv => lhs; whnf
 . conv => lhs; whnf
 . first | rfl | assumption
 . conv => lhs; whnf
 . first | exact hc
|apply zl rfl
 . conv => lhs; whnf
 . conv => lhs; whnf
 . first | rfl | assumption
|apply zP rfl
 . conv => lhs; whnf
 . conv => lhs; whnf
 . conv => lhs; whnf; arg 2; whnf
|refine zH ?_
|refine ⟨_,by conv => lhs; whnf; arg 2; whnf,?_⟩; conv => rhs; whnf
|exact trivial
|intro hg)
   all_goals
    clear hc he e
    refine congrArg (fun b => V.c (.bool b)) ?_
    simp_all
theorem arg1B8_ac (x : D) : AC EN5 Tryz.prog 128 [.agg (cellsV Tryz.prog 12 68 x)] (.c (.bool (!zDi x))):=by
 have hn:=zAz (x.f 0).s
 have hl:=litU_ac (x.f 1)
 unfold zDi
 refine zX 13 Tryz.func128 rfl rfl rfl rfl ?_
 intro s w he
 repeat' (first
|refine zA ?_
|refine zI ?_
|refine zb ?_
|apply aw_1
 conv => whnf
 refine ⟨?_,trivial⟩
|apply zg rfl rfl
 . conv => lhs; whnf
 . conv => lhs; whnf
 . first | exact bT1 ‹_› | exact bT2 ‹_›
|apply ze rfl rfl
 . conv => lhs; whnf
 . conv => lhs; whnf
 . first | exact bF1 ‹_› | exact bF2 ‹_›
|apply s_1
 conv => whnf; arg 1; arg 4; arg 3; whnf
 refine ⟨?_,?_⟩
|apply zd rfl
 . conv => lhs; whnf
 . conv => lhs; whnf
 . first | exact hn | exact hl
|apply zAC rfl rfl rfl rfl
 . conv => lhs; whnf; arg 1; whnf
 . rfl
|apply zM rfl
 . conv => lhs; whnf
 . conv => lhs; whnf
 . first | rfl | assumption
 . conv => lhs; whnf; arg 2; whnf
|apply zR rfl
 . conv => lhs; whnf
 . conv => lhs; whnf
 . first | rfl | assumption
 . conv => lhs; whnf
 . first | exact hn | exact hl
|apply zl rfl
 . conv => lhs; whnf
 . conv => lhs; whnf
 . first | rfl | assumption
|apply zP rfl
 . conv => lhs; whnf
 . conv => lhs; whnf
 . conv => lhs; whnf; arg 2; whnf
|refine zH ?_
|refine ⟨_,by conv => lhs; whnf; arg 2; whnf,?_⟩; conv => rhs; whnf
|exact trivial
|intro hg)
 all_goals
  clear hn hl he
  refine congrArg (fun b => V.c (.bool b)) ?_
  simp_all
theorem zGl (l : List D) : AC EN5 Tryz.prog 90 [.sl 68 l] (.c (.bool (argsB8 l))):=by
 refine zEW 1 fun hL => ?_
 have hl : l.length <= 9223372036854775807:=hL.1
 clear hL
 have hc:=zEj l (fun x => !zDi x) hl fun i hi => arg1B8_ac _
 have e : decide ((l.length : Int) <= 16) = decide (l.length <= 16):=decide_eq_decide.2 (by omega)
 unfold argsB8
 refine zX 11 Tryz.func90 rfl rfl rfl rfl ?_
 intro s w he
 repeat' (first
|refine zA ?_
|refine zI ?_
|refine zb ?_
|apply aw_1
 conv => whnf
 refine ⟨?_,trivial⟩
|apply zg rfl rfl
 . conv => lhs; whnf
 . conv => lhs; whnf
 . first | exact bT1 ‹_› | exact bT2 ‹_›
|apply ze rfl rfl
 . conv => lhs; whnf
 . conv => lhs; whnf
 . first | exact bF1 ‹_› | exact bF2 ‹_›
|apply s_1
 conv => whnf; arg 1; arg 4; arg 3; whnf
 refine ⟨?_,?_⟩
|apply zM rfl
 . conv => lhs; whnf
 . conv => lhs; whnf
 . first | rfl | assumption
 . conv => lhs; whnf; arg 2; whnf
|apply zR rfl
 . conv => lhs; whnf
 . conv => lhs; whnf
 . first | rfl | assumption
 . conv => lhs; whnf
 . first | exact hc
|apply zl rfl
 . conv => lhs; whnf
 . conv => lhs; whnf
 . first | rfl | assumption
|apply zP rfl
 . conv => lhs; whnf
 . conv => lhs; whnf
 . conv => lhs; whnf; arg 2; whnf
|refine zH ?_
|refine ⟨_,by conv => lhs; whnf; arg 2; whnf,?_⟩; conv => rhs; whnf
|exact trivial
|intro hg)
 all_goals
  clear hc he
  refine congrArg (fun b => V.c (.bool b)) ?_
  simp only [e] at *
  simp_all
  try (intros; omega)
theorem dir1B8_ac (x : D) : AC EN5 Tryz.prog 130 [.agg (cellsV Tryz.prog 12 129 x)] (.c (.bool (!zDg x))):=by
 have hn:=zAz (x.f 0).s
 have hl:=zGl (x.f 1).l
 unfold zDg
 refine zX 13 Tryz.func130 rfl rfl rfl rfl ?_
 intro s w he
 repeat' (first
|refine zA ?_
|refine zI ?_
|refine zb ?_
|apply aw_1
 conv => whnf
 refine ⟨?_,trivial⟩
|apply zg rfl rfl
 . conv => lhs; whnf
 . conv => lhs; whnf
 . first | exact bT1 ‹_› | exact bT2 ‹_›
|apply ze rfl rfl
 . conv => lhs; whnf
 . conv => lhs; whnf
 . first | exact bF1 ‹_› | exact bF2 ‹_›
|apply s_1
 conv => whnf; arg 1; arg 4; arg 3; whnf
 refine ⟨?_,?_⟩
|apply zd rfl
 . conv => lhs; whnf
 . conv => lhs; whnf
 . first | exact hn | exact hl
|apply zAC rfl rfl rfl rfl
 . conv => lhs; whnf; arg 1; whnf
 . rfl
|apply zM rfl
 . conv => lhs; whnf
 . conv => lhs; whnf
 . first | rfl | assumption
 . conv => lhs; whnf; arg 2; whnf
|apply zR rfl
 . conv => lhs; whnf
 . conv => lhs; whnf
 . first | rfl | assumption
 . conv => lhs; whnf
 . first | exact hn | exact hl
|apply zl rfl
 . conv => lhs; whnf
 . conv => lhs; whnf
 . first | rfl | assumption
|apply zP rfl
 . conv => lhs; whnf
 . conv => lhs; whnf
 . conv => lhs; whnf; arg 2; whnf
|refine zH ?_
|refine ⟨_,by conv => lhs; whnf; arg 2; whnf,?_⟩; conv => rhs; whnf
|exact trivial
|intro hg)
 all_goals
  clear hn hl he
  refine congrArg (fun b => V.c (.bool b)) ?_
  simp_all
theorem dirsB8_ac (l : List D) : AC EN5 Tryz.prog 91 [.sl 129 l] (.c (.bool (dirsB8 l))):=by
 refine zEW 1 fun hL => ?_
 have hl : l.length <= 9223372036854775807:=hL.1
 clear hL
 have hc:=zEi l (fun x => !zDg x) hl fun i hi => dir1B8_ac _
 have e : decide ((l.length : Int) <= 16) = decide (l.length <= 16):=decide_eq_decide.2 (by omega)
 unfold dirsB8
 refine zX 11 Tryz.func91 rfl rfl rfl rfl ?_
 intro s w he
 repeat' (first
|refine zA ?_
|refine zI ?_
|refine zb ?_
|apply aw_1
 conv => whnf
 refine ⟨?_,trivial⟩
|apply zg rfl rfl
 . conv => lhs; whnf
 . conv => lhs; whnf
 . first | exact bT1 ‹_› | exact bT2 ‹_›
|apply ze rfl rfl
 . conv => lhs; whnf
 . conv => lhs; whnf
 . first | exact bF1 ‹_› | exact bF2 ‹_›
|apply s_1
 conv => whnf; arg 1; arg 4; arg 3; whnf
 refine ⟨?_,?_⟩
|apply zM rfl
 . conv => lhs; whnf
 . conv => lhs; whnf
 . first | rfl | assumption
 . conv => lhs; whnf; arg 2; whnf
|apply zR rfl
 . conv => lhs; whnf
 . conv => lhs; whnf
 . first | rfl | assumption
 . conv => lhs; whnf
 . first | exact hc
|apply zl rfl
 . conv => lhs; whnf
 . conv => lhs; whnf
 . first | rfl | assumption
|apply zP rfl
 . conv => lhs; whnf
 . conv => lhs; whnf
 . conv => lhs; whnf; arg 2; whnf
|refine zH ?_
|refine ⟨_,by conv => lhs; whnf; arg 2; whnf,?_⟩; conv => rhs; whnf
|exact trivial
|intro hg)
 all_goals
  clear hc he
  refine congrArg (fun b => V.c (.bool b)) ?_
  simp only [e] at *
  simp_all
  try (intros; omega)
theorem zEp (x : ByteArray) : AC EN5 Tryz.prog 25 [.c (.string x)] (.c (.bool (titleR x))):=by
 have hn:=zAz x
 have hT : (x.toList == ({ data:=#[111,110] } : ByteArray).toList) = (x.data.toList == [111,110]):=str_is _ _
 unfold titleR
 refine zX 9 Tryz.func25 rfl rfl rfl rfl ?_
 intro s w he
 repeat' (first
|refine zA ?_
|refine zI ?_
|refine zb ?_
|apply aw_1
 conv => whnf
 refine ⟨?_,trivial⟩
|apply zg rfl rfl
 . conv => lhs; whnf
 . conv => lhs; whnf
 . first | exact bT1 ‹_› | exact bT2 ‹_›
|apply ze rfl rfl
 . conv => lhs; whnf
 . conv => lhs; whnf
 . first | exact bF1 ‹_› | exact bF2 ‹_›
|apply s_1
 conv => whnf; arg 1; arg 4; arg 3; whnf
 refine ⟨?_,?_⟩
|apply zd rfl
 . conv => lhs; whnf
 . conv => lhs; whnf
 . first | exact hn
|apply zM rfl
 . conv => lhs; whnf
 . conv => lhs; whnf
 . first | rfl | assumption
 . conv => lhs; whnf; arg 2; whnf
|apply zl rfl
 . conv => lhs; whnf
 . conv => lhs; whnf
 . first | rfl | assumption
|apply zP rfl
 . conv => lhs; whnf
 . conv => lhs; whnf
 . conv => lhs; whnf; arg 2; whnf
|refine zH ?_
|refine ⟨_,by conv => lhs; whnf; arg 2; whnf,?_⟩; conv => rhs; whnf
|exact trivial
|intro hg)
 all_goals
  clear hn he
  refine congrArg (fun b => V.c (.bool b)) ?_
  simp only [hT] at *
  simp_all
theorem zF4 (l : List D) (least lv : Nat) (p : D -> Bool) (hc : lv <= 24 -> ∀ i,i < l.length -> AC EN5 Tryz.prog 51 [.agg (cellsV Tryz.prog 12 57 (gD l i)),.c (.int .i64 (lv : Int))] (.c (.bool (p (gD l i))))) :
 AC EN5 Tryz.prog 22 [.sl 57 l,.c (.int .i64 (least : Int)),.c (.int .i64 (lv : Int))] (.c (.bool (selsR p l least lv))):=by
 refine zEW 1 fun hL => ?_
 have hl : l.length <= 9223372036854775807:=hL.1
 clear hL
 by_cases hok : lv <= 24 \/ l.length = 0
 . have hcs:=zEP (lv : Int) l (fun x => !p x) hl fun i hi => sel1_acb _ lv _ (hc (hok.resolve_right (by omega)) i hi)
   have e1 : decide ((l.length : Int) < (least : Int)) = !decide (least <= l.length):=by rw [Bool.eq_iff_iff]; simp
   have e2 : decide ((l.length : Int) > 64) = !decide (l.length <= 64):=by rw [Bool.eq_iff_iff]; simp; omega
   have e3 : decide ((l.length : Int) > 0) = !decide (l.length = 0):=by
    rw [Bool.eq_iff_iff]
    simp only [decide_eq_true_eq,Bool.not_eq_true',decide_eq_false_iff_not]
    omega
   have e4 : decide ((lv : Int) > 24) = !decide (lv <= 24):=by rw [Bool.eq_iff_iff]; simp; omega
   unfold selsR
   refine zX 29 Tryz.func22 rfl rfl rfl rfl ?_
   intro s w he
   repeat' (first
|apply zq rfl rfl rfl
 . conv => lhs; whnf
 . first | rfl | assumption
 . conv => lhs; whnf
 . first | exact bT1 ‹_› | exact bT2 ‹_› | rfl
|apply zu rfl rfl rfl
 . conv => lhs; whnf
 . first | rfl | assumption
 . conv => lhs; whnf
 . first | exact bF1 ‹_› | exact bF2 ‹_› | rfl
|apply zAt (m:=5) rfl
 . conv => lhs; whnf
 . conv => lhs; whnf
 . rfl
 . conv => lhs; whnf; arg 1; whnf
 . exact fun _ => rfl
 . first | exact hcs
 . exact fun _ => rfl
 . exact fun _ => rfl
 . exact fun _ => rfl
|refine zA ?_
|refine zI ?_
|refine zb ?_
|apply aw_1
 conv => whnf
 refine ⟨?_,trivial⟩
|apply zg rfl rfl
 . conv => lhs; whnf
 . conv => lhs; whnf
 . first | exact bT1 ‹_› | exact bT2 ‹_›
|apply ze rfl rfl
 . conv => lhs; whnf
 . conv => lhs; whnf
 . first | exact bF1 ‹_› | exact bF2 ‹_›
|apply s_1
 conv => whnf; arg 1; arg 4; arg 3; whnf
 refine ⟨?_,?_⟩
|apply zAC rfl rfl rfl rfl
 . conv => lhs; whnf; arg 1; whnf
 . rfl
|apply zM rfl
 . conv => lhs; whnf
 . conv => lhs; whnf
 . first | rfl | assumption
 . conv => lhs; whnf; arg 2; whnf
|apply zl rfl
 . conv => lhs; whnf
 . conv => lhs; whnf
 . first | rfl | assumption
|apply zP rfl
 . conv => lhs; whnf
 . conv => lhs; whnf
 . conv => lhs; whnf; arg 2; whnf
|refine zT (by conv => lhs; whnf) ?_ ?_ <;> intro hb
|refine zK ?_
|refine zH ?_
|refine ⟨_,by conv => lhs; whnf; arg 2; whnf,?_⟩; conv => rhs; whnf
|exact trivial
|intro hg)
   all_goals
    clear hcs he hc hok
    refine congrArg (fun b => V.c (.bool b)) ?_
    simp only [e1,e2,e3,e4] at *
    clear e1 e2 e3 e4
    generalize decide (least <= l.length) = a1 at *
    generalize decide (l.length <= 64) = a2 at *
    generalize decide (l.length = 0) = a3 at *
    generalize decide (lv <= 24) = a4 at *
    generalize (l.any fun x => !p x) = a5 at *
    simp_all
 . have hR : selsR p l least lv = false:=by
    unfold selsR
    rw [decide_eq_false (show ¬ l.length = 0 by omega),decide_eq_false (show ¬ lv <= 24 by omega)]
    simp
   rw [hR]
   have f3 : decide ((l.length : Int) > 0) = true:=decide_eq_true (by omega)
   have f4 : decide ((lv : Int) > 24) = true:=decide_eq_true (by omega)
   have g3 : (decide ((l.length : Int) > 0) == true) = true:=by rw [f3]; rfl
   have K3 : (decide ((l.length : Int) > 0) == true) = false -> False:=fun h => by rw [g3] at h; cases h
   have K4 : decide ((l.length : Int) > 0) = false -> False:=fun h => by rw [f3] at h; cases h
   have K5 : decide ((lv : Int) > 24) = false -> False:=fun h => by rw [f4] at h; cases h
   clear hc hok hR
   refine zX 29 Tryz.func22 rfl rfl rfl rfl ?_
   intro s w he
   cases f1 : decide ((l.length : Int) < (least : Int)) with
   | true =>
     have k1 : (decide ((l.length : Int) < (least : Int)) == false) = true -> False:=fun h => by rw [f1] at h; cases h
     repeat' (first
|exact (k1 ‹_›).elim
|refine zA ?_
|refine zI ?_
|refine zb ?_
|apply aw_1
 conv => whnf
 refine ⟨?_,trivial⟩
|apply zg rfl rfl
 . conv => lhs; whnf
 . conv => lhs; whnf
 . first | exact bT1 ‹_› | exact bT2 ‹_›
|apply s_1
 conv => whnf; arg 1; arg 4; arg 3; whnf
 refine ⟨?_,?_⟩
|apply zAC rfl rfl rfl rfl
 . conv => lhs; whnf; arg 1; whnf
 . rfl
|apply zl rfl
 . conv => lhs; whnf
 . conv => lhs; whnf
 . first | rfl | assumption
|apply zP rfl
 . conv => lhs; whnf
 . conv => lhs; whnf
 . conv => lhs; whnf; arg 2; whnf
|refine zK ?_
|refine zH ?_
|refine ⟨_,by conv => lhs; whnf; arg 2; whnf,?_⟩; conv => rhs; whnf
|exact trivial
|intro hg)
   | false =>
     have k1 : (decide ((l.length : Int) < (least : Int)) == false) = false -> False:=fun h => by rw [f1] at h; cases h
     cases f2 : decide ((l.length : Int) > 64) with
     | true =>
       have k2 : (decide ((l.length : Int) > 64) == false) = true -> False:=fun h => by rw [f2] at h; cases h
       repeat' (first
|exact (k1 ‹_›).elim
|exact (k2 ‹_›).elim
|refine zA ?_
|refine zI ?_
|refine zb ?_
|apply aw_1
 conv => whnf
 refine ⟨?_,trivial⟩
|apply zg rfl rfl
 . conv => lhs; whnf
 . conv => lhs; whnf
 . first | exact bT1 ‹_› | exact bT2 ‹_›
|apply ze rfl rfl
 . conv => lhs; whnf
 . conv => lhs; whnf
 . first | exact bF1 ‹_› | exact bF2 ‹_›
|apply s_1
 conv => whnf; arg 1; arg 4; arg 3; whnf
 refine ⟨?_,?_⟩
|apply zAC rfl rfl rfl rfl
 . conv => lhs; whnf; arg 1; whnf
 . rfl
|apply zM rfl
 . conv => lhs; whnf
 . conv => lhs; whnf
 . first | rfl | assumption
 . conv => lhs; whnf; arg 2; whnf
|apply zl rfl
 . conv => lhs; whnf
 . conv => lhs; whnf
 . first | rfl | assumption
|apply zP rfl
 . conv => lhs; whnf
 . conv => lhs; whnf
 . conv => lhs; whnf; arg 2; whnf
|refine zK ?_
|refine zH ?_
|refine ⟨_,by conv => lhs; whnf; arg 2; whnf,?_⟩; conv => rhs; whnf
|exact trivial
|intro hg)
     | false =>
       have k2 : (decide ((l.length : Int) > 64) == false) = false -> False:=fun h => by rw [f2] at h; cases h
       repeat' (first
|apply zq rfl rfl rfl
 . conv => lhs; whnf
 . first | rfl | assumption
 . conv => lhs; whnf
 . first | exact bT1 ‹_› | exact bT2 ‹_› | rfl
|apply zW
 . conv => lhs; whnf
 . assumption
|exact (k1 ‹_›).elim
|exact (k2 ‹_›).elim
|refine zA ?_
|refine zI ?_
|refine zb ?_
|apply aw_1
 conv => whnf
 refine ⟨?_,trivial⟩
|apply ze rfl rfl
 . conv => lhs; whnf
 . conv => lhs; whnf
 . first | exact bF1 ‹_› | exact bF2 ‹_›
|apply s_1
 conv => whnf; arg 1; arg 4; arg 3; whnf
 refine ⟨?_,?_⟩
|apply zAC rfl rfl rfl rfl
 . conv => lhs; whnf; arg 1; whnf
 . rfl
|apply zM rfl
 . conv => lhs; whnf
 . conv => lhs; whnf
 . first | rfl | assumption
 . conv => lhs; whnf; arg 2; whnf
|apply zP rfl
 . conv => lhs; whnf
 . conv => lhs; whnf
 . conv => lhs; whnf; arg 2; whnf
|refine zK ?_
|refine zH ?_
|refine ⟨_,by conv => lhs; whnf; arg 2; whnf,?_⟩; conv => rhs; whnf
|exact trivial
|intro hg)
theorem zHg : ∀ (k lv : Nat) (d : D),bulkD d <= k -> lv <= 24 -> AC EN5 Tryz.prog 51 [.agg (cellsV Tryz.prog 12 57 d),.c (.int .i64 (lv : Int))] (.c (.bool (selB8 k lv d)))
 | 0,_,d,h,_ => by have:=zBc d; omega
 | k + 1,lv,d,h,hlv => by
   have hB:=(sel_b (B:=bulkD d) (d:=d) (Nat.le_refl _)).l6
   have h1:=zAz (d.f 1).s
   have h2:=zAz (d.f 2).s
   have h3:=zAz (d.f 3).s
   have h4:=zGl (d.f 4).l
   have h5:=dirsB8_ac (d.f 5).l
   have h6:=zEp (d.f 2).s
   have hs:=fun least => zF4 (d.f 6).l least (lv + 1) (selB8 k (lv + 1)) fun h24 i hi => zHg k (lv + 1) _ (by have:=zA9 hi; omega) h24
   have hs0:=hs 0
   have hs1:=hs 1
   have hz4 : (((d.f 4).l.length : Int) == 0) = decide ((d.f 4).l.length = 0):=by rw [Bool.eq_iff_iff]; simp
   have hz6 : (((d.f 6).l.length : Int) == 0) = decide ((d.f 6).l.length = 0):=by rw [Bool.eq_iff_iff]; simp
   have n1:=zBP (d.f 1).s
   have n2:=zBP (d.f 2).s
   have n3:=zBP (d.f 3).s
   have e : cellsV Tryz.prog 12 57 d = [.c (.int .i64 (d.f 0).n),.c (.string (d.f 1).s),.c (.string (d.f 2).s),.c (.string (d.f 3).s),.sl 68 (d.f 4).l,.sl 129 (d.f 5).l,.sl 57 (d.f 6).l]:=rfl
   unfold selB8
   rw [e]
   by_cases k1 : (d.f 0).n = 1
   . rw [if_pos k1,k1]
     refine zX 104 Tryz.func51 rfl rfl rfl rfl ?_
     intro s w he
     repeat' (first
|apply zq rfl rfl rfl
 . conv => lhs; whnf
 . first | rfl | assumption
 . conv => lhs; whnf
 . first | exact bT1 ‹_› | exact bT2 ‹_› | rfl
|apply zu rfl rfl rfl
 . conv => lhs; whnf
 . first | rfl | assumption
 . conv => lhs; whnf
 . first | exact bF1 ‹_› | exact bF2 ‹_› | rfl
|refine zA ?_
|refine zI ?_
|refine zb ?_
|apply aw_1
 conv => whnf
 refine ⟨?_,trivial⟩
|apply zg rfl rfl
 . conv => lhs; whnf
 . conv => lhs; whnf
 . first | exact bT1 ‹_› | exact bT2 ‹_›
|apply ze rfl rfl
 . conv => lhs; whnf
 . conv => lhs; whnf
 . first | exact bF1 ‹_› | exact bF2 ‹_›
|apply s_1
 conv => whnf; arg 1; arg 4; arg 3; whnf
 refine ⟨?_,?_⟩
|apply zd rfl
 . conv => lhs; whnf
 . conv => lhs; whnf
 . first | exact h1 | exact h2 | exact h4 | exact h5 | exact hs0
|apply zAC rfl rfl rfl rfl
 . conv => lhs; whnf; arg 1; whnf
 . rfl
|apply zM rfl
 . conv => lhs; whnf
 . conv => lhs; whnf
 . first | rfl | assumption
 . conv => lhs; whnf; arg 2; whnf
|apply zR rfl
 . conv => lhs; whnf
 . conv => lhs; whnf
 . first | rfl | assumption
 . conv => lhs; whnf
 . first | exact h1 | exact h2 | exact h4 | exact h5 | exact hs0
|apply zl rfl
 . conv => lhs; whnf
 . conv => lhs; whnf
 . first | rfl | assumption
|apply zP rfl
 . conv => lhs; whnf
 . conv => lhs; whnf
 . conv => lhs; whnf; arg 2; whnf
|refine zT (by conv => lhs; whnf) ?_ ?_ <;> intro hb
|refine zK ?_
|refine zC ?_
|refine zH ?_
|refine ⟨_,by conv => lhs; whnf; arg 2; whnf,?_⟩; conv => rhs; whnf
|exact trivial
|intro hg)
     all_goals first
      | exact zo (by omega)
      | (clear h1 h2 h3 h4 h5 h6 hs hs0 hs1 he e hB
         refine congrArg (fun b => V.c (.bool b)) ?_
         simp only [n1,n2,n3,hz4,hz6] at *
         clear n1 n2 n3 hz4 hz6
         generalize argsB8 (d.f 4).l = a1 at *
         generalize dirsB8 (d.f 5).l = a2 at *
         generalize noneS (d.f 1).s = a3 at *
         generalize noneS (d.f 3).s = a4 at *
         generalize nameB (d.f 1).s = a5 at *
         generalize nameB (d.f 2).s = a6 at *
         generalize selsR (selB8 k (lv + 1)) (d.f 6).l 0 (lv + 1) = a7 at *
         clear k1 h hlv
         simp_all)
   rw [if_neg k1]
   by_cases k2 : (d.f 0).n = 2
   . rw [if_pos k2,k2]
     refine zX 104 Tryz.func51 rfl rfl rfl rfl ?_
     intro s w he
     repeat' (first
|refine zA ?_
|refine zI ?_
|refine zb ?_
|apply aw_1
 conv => whnf
 refine ⟨?_,trivial⟩
|apply zg rfl rfl
 . conv => lhs; whnf
 . conv => lhs; whnf
 . first | exact bT1 ‹_› | exact bT2 ‹_›
|apply ze rfl rfl
 . conv => lhs; whnf
 . conv => lhs; whnf
 . first | exact bF1 ‹_› | exact bF2 ‹_›
|apply s_1
 conv => whnf; arg 1; arg 4; arg 3; whnf
 refine ⟨?_,?_⟩
|apply zd rfl
 . conv => lhs; whnf
 . conv => lhs; whnf
 . first | exact h4 | exact h5 | exact h6
|apply zAC rfl rfl rfl rfl
 . conv => lhs; whnf; arg 1; whnf
 . rfl
|apply zM rfl
 . conv => lhs; whnf
 . conv => lhs; whnf
 . first | rfl | assumption
 . conv => lhs; whnf; arg 2; whnf
|apply zR rfl
 . conv => lhs; whnf
 . conv => lhs; whnf
 . first | rfl | assumption
 . conv => lhs; whnf
 . first | exact h4 | exact h5 | exact h6
|apply zl rfl
 . conv => lhs; whnf
 . conv => lhs; whnf
 . first | rfl | assumption
|apply zP rfl
 . conv => lhs; whnf
 . conv => lhs; whnf
 . conv => lhs; whnf; arg 2; whnf
|refine zT (by conv => lhs; whnf) ?_ ?_ <;> intro hb
|refine zK ?_
|refine zC ?_
|refine zH ?_
|refine ⟨_,by conv => lhs; whnf; arg 2; whnf,?_⟩; conv => rhs; whnf
|exact trivial
|intro hg)
     all_goals
      clear h1 h2 h3 h4 h5 h6 hs hs0 hs1 he e hB
      refine congrArg (fun b => V.c (.bool b)) ?_
      simp only [n1,n2,n3,hz4,hz6] at *
      clear n1 n2 n3 hz4 hz6
      generalize argsB8 (d.f 4).l = a1 at *
      generalize dirsB8 (d.f 5).l = a2 at *
      generalize noneS (d.f 1).s = a3 at *
      generalize noneS (d.f 3).s = a4 at *
      generalize decide ((d.f 4).l.length = 0) = a5 at *
      generalize decide ((d.f 6).l.length = 0) = a6 at *
      generalize titleR (d.f 2).s = a7 at *
      clear k1 k2 h hlv
      simp_all
   rw [if_neg k2]
   by_cases k3 : (d.f 0).n = 3
   . rw [if_pos k3,k3]
     refine zX 104 Tryz.func51 rfl rfl rfl rfl ?_
     intro s w he
     repeat' (first
|apply zq rfl rfl rfl
 . conv => lhs; whnf
 . first | rfl | assumption
 . conv => lhs; whnf
 . first | exact bT1 ‹_› | exact bT2 ‹_› | rfl
|apply zu rfl rfl rfl
 . conv => lhs; whnf
 . first | rfl | assumption
 . conv => lhs; whnf
 . first | exact bF1 ‹_› | exact bF2 ‹_› | rfl
|refine zA ?_
|refine zI ?_
|refine zb ?_
|apply aw_1
 conv => whnf
 refine ⟨?_,trivial⟩
|apply zg rfl rfl
 . conv => lhs; whnf
 . conv => lhs; whnf
 . first | exact bT1 ‹_› | exact bT2 ‹_›
|apply ze rfl rfl
 . conv => lhs; whnf
 . conv => lhs; whnf
 . first | exact bF1 ‹_› | exact bF2 ‹_›
|apply s_1
 conv => whnf; arg 1; arg 4; arg 3; whnf
 refine ⟨?_,?_⟩
|apply zd rfl
 . conv => lhs; whnf
 . conv => lhs; whnf
 . first | exact h3 | exact h4 | exact h5 | exact hs1
|apply zAC rfl rfl rfl rfl
 . conv => lhs; whnf; arg 1; whnf
 . rfl
|apply zM rfl
 . conv => lhs; whnf
 . conv => lhs; whnf
 . first | rfl | assumption
 . conv => lhs; whnf; arg 2; whnf
|apply zR rfl
 . conv => lhs; whnf
 . conv => lhs; whnf
 . first | rfl | assumption
 . conv => lhs; whnf
 . first | exact h3 | exact h4 | exact h5 | exact hs1
|apply zl rfl
 . conv => lhs; whnf
 . conv => lhs; whnf
 . first | rfl | assumption
|apply zP rfl
 . conv => lhs; whnf
 . conv => lhs; whnf
 . conv => lhs; whnf; arg 2; whnf
|refine zT (by conv => lhs; whnf) ?_ ?_ <;> intro hb
|refine zK ?_
|refine zC ?_
|refine zH ?_
|refine ⟨_,by conv => lhs; whnf; arg 2; whnf,?_⟩; conv => rhs; whnf
|exact trivial
|intro hg)
     all_goals first
      | exact zo (by omega)
      | (clear h1 h2 h3 h4 h5 h6 hs hs0 hs1 he e hB
         refine congrArg (fun b => V.c (.bool b)) ?_
         simp only [n1,n2,n3,hz4,hz6] at *
         clear n1 n2 n3 hz4 hz6
         generalize argsB8 (d.f 4).l = a1 at *
         generalize dirsB8 (d.f 5).l = a2 at *
         generalize noneS (d.f 1).s = a3 at *
         generalize noneS (d.f 2).s = a4 at *
         generalize noneS (d.f 3).s = a5 at *
         generalize nameB (d.f 3).s = a6 at *
         generalize decide ((d.f 4).l.length = 0) = a8 at *
         generalize selsR (selB8 k (lv + 1)) (d.f 6).l 1 (lv + 1) = a7 at *
         clear k1 k2 k3 h hlv
         simp_all)
   rw [if_neg k3]
   have f1 : ((d.f 0).n == 1) = false:=by simpa using k1
   have f2 : ((d.f 0).n == 2) = false:=by simpa using k2
   have f3 : ((d.f 0).n == 3) = false:=by simpa using k3
   refine zX 104 Tryz.func51 rfl rfl rfl rfl ?_
   intro s w he
   repeat' (first
|apply zS
 . conv => lhs; whnf
 . assumption
|refine zA ?_
|refine zI ?_
|refine zb ?_
|refine zU ?_
|apply aw_1
 conv => whnf
 refine ⟨?_,trivial⟩
|apply zg rfl rfl
 . conv => lhs; whnf
 . conv => lhs; whnf
 . first | exact bT1 ‹_› | exact bT2 ‹_›
|apply ze rfl rfl
 . conv => lhs; whnf
 . conv => lhs; whnf
 . first | exact bF1 ‹_› | exact bF2 ‹_›
|apply s_1
 conv => whnf; arg 1; arg 4; arg 3; whnf
 refine ⟨?_,?_⟩
|apply zd rfl
 . conv => lhs; whnf
 . conv => lhs; whnf
 . first | exact h4 | exact h5
|apply zAC rfl rfl rfl rfl
 . conv => lhs; whnf; arg 1; whnf
 . rfl
|apply zM rfl
 . conv => lhs; whnf
 . conv => lhs; whnf
 . first | rfl | assumption
 . conv => lhs; whnf; arg 2; whnf
|apply zR rfl
 . conv => lhs; whnf
 . conv => lhs; whnf
 . first | rfl | assumption
 . conv => lhs; whnf
 . first | exact h4 | exact h5
|apply zl rfl
 . conv => lhs; whnf
 . conv => lhs; whnf
 . first | rfl | assumption
|apply zP rfl
 . conv => lhs; whnf
 . conv => lhs; whnf
 . conv => lhs; whnf; arg 2; whnf
|refine zT (by conv => lhs; whnf) ?_ ?_ <;> intro hb
|refine zK ?_
|refine zH ?_
|refine ⟨_,by conv => lhs; whnf; arg 2; whnf,?_⟩; conv => rhs; whnf
|exact trivial
|intro hg)
   all_goals
    clear h1 h2 h3 h4 h5 h6 hs hs0 hs1 he e hB
    refine congrArg (fun b => V.c (.bool b)) ?_
    simp
theorem zHe (l : List D) : AC EN5 Tryz.prog 22 [.sl 57 l,.c (.int .i64 1),.c (.int .i64 1)] (.c (.bool (setB8 l))):=
 zF4 l 1 1 (selB8 (bulkL l) 1) fun h24 i hi => zHg _ _ _ (zA9 hi) h24
end Go.Proofs.YtdlnnlglmifceaaGreatDoor
namespace Go.Proofs.YtdlnnlglmifceaaGreatDoor
open Go.RowKit
set_option linter.unusedSectionVars false
theorem ac_q2 {e : Ge} {P : Program} {f : FuncId} {t u : TypeId} {a b : List D} {args : List V} {r : V} (h : a.length <= maxLen -> b.length <= maxLen -> AC e P f (.agg [.sl t a,.sl u b] :: args) r) : AC e P f (.agg [.sl t a,.sl u b] :: args) r:=
 ac_pre (p:=a.length <= maxLen /\ b.length <= maxLen) (fun s w us hr => by
  cases us with
  | nil => simp [relL] at hr
  | cons x us =>
    rw [relL,rel] at hr
    obtain ⟨⟨cs,-,h1⟩,-⟩:=hr
    cases hc : cs.toList with
    | nil => rw [hc] at h1; simp [relL] at h1
    | cons y ys =>
      rw [hc,relL,rel] at h1
      cases ys with
      | nil => simp [relL] at h1
      | cons z zs =>
        rw [relL,rel] at h1
        exact ⟨(h1.1.len 0).1,(h1.2.1.len 0).1⟩) fun h' => h h'.1 h'.2
attribute [local irreducible] wpList Calls Code.wp AW AWo OpOk seqK zAP zAR loopK endK AC zy Yld Sub
attribute [local irreducible] ACB ACX ACE absLexG YldG
theorem cmpZ_ac (a : D) : AC EN5 Tryz.prog 83 [.agg (cellsV Tryz.prog 12 62 a),.agg (cellsV Tryz.prog 12 62 zV)] (.c (.int .i64 (cmpV 1 a zV))):=by
 have c1:=fun i => key_ac a i
 have c2:=fun i => key_ac zV i
 have c3:=fun x y => cmpStr_ac x y
 have c4:=fun x y => cmpInt_ac x y
 have hC : cmpV 1 a zV = if (a.f 0).n != (zV.f 0).n then ordI (a.f 0).n (zV.f 0).n
  else if (a.f 1).n != (zV.f 1).n then ordI (a.f 1).n (zV.f 1).n
  else if !((a.f 2).s.toList == (zV.f 2).s.toList) then Lib.compareBytes (tx (a.f 2).s) (tx (zV.f 2).s)
  else ordI (a.f 3).l.length (zV.f 3).l.length:=by
  have e : cmpIt (cmpV 0) a zV (min (a.f 3).l.length (zV.f 3).l.length) 0 = ordI (a.f 3).l.length (zV.f 3).l.length:=by
   rw [show min (a.f 3).l.length (zV.f 3).l.length = 0 from Nat.min_zero _]; rfl
  rw [<- e]; rfl
 have hz : (zV.f 3).l.length = 0:=rfl
 generalize hZ : zV = b at hC hz c2 |-
 clear hZ
 refine zX 84 Tryz.func83 rfl rfl rfl rfl ?_
 intro s w he
 repeat' (first
|refine zA ?_
|refine zI ?_
|refine zb ?_
|apply aw_1
 conv => whnf
 refine ⟨?_,trivial⟩
|apply s_1
 conv => whnf; arg 1; arg 4; arg 3; whnf
 refine ⟨?_,?_⟩
|apply zAC rfl rfl rfl rfl
 . conv => lhs; whnf; arg 1; whnf
 . rfl
|exact trivial)
 refine z7 (fun j st => (j = 1 /\ Sub (cx EN5 Tryz.prog s w he) st (HV0 a b)) \/ (j = 0 /\ Sub (cx EN5 Tryz.prog s w he) st (HV1 (cmpV 1 a b)))) 1 (.inl ⟨rfl,?_⟩) ?_
 . exact Sub.live ⟨rfl,rfl,rfl,trivial⟩ ⟨rfl,rfl,trivial⟩
 . rintro j st (⟨rfl,hs2⟩ | ⟨rfl,hs2⟩)
   . refine z8 hs2 ?_
     generalize cmpV 1 a b = R at hC |-
     repeat' (first
|refine zA ?_
|refine zI ?_
|refine zb ?_
|refine zU ?_
|apply aw_1
 conv => whnf
 refine ⟨?_,trivial⟩
|apply s_1
 conv => whnf; arg 1; arg 4; arg 3; whnf
 refine ⟨?_,?_⟩
|apply zd rfl
 . conv => lhs; whnf
 . conv => lhs; whnf
 . first | exact c1 _ | exact c2 _ | exact c3 _ _ | exact c4 _ _
|refine zT (by conv => lhs; whnf) ?_ ?_ <;> intro hb
|refine zG ?_
|refine zB rfl ?_
|refine zE rfl ?_
|refine zJ ?_
|refine zD ?_
|refine zH ?_
|refine ⟨_,by conv => lhs; whnf; arg 2; whnf,?_⟩; conv => rhs; whnf
|exact trivial)
     . have e1 : ((a.f 0).n != (b.f 0).n) = true:=by assumption
       rw [hC,if_pos e1]
     . have e1 : ((a.f 0).n != (b.f 0).n) = false:=by assumption
       have e2 : ((a.f 1).n != (b.f 1).n) = true:=by assumption
       rw [hC,if_neg (by rw [e1]; decide),if_pos e2]
     . have e1 : ((a.f 0).n != (b.f 0).n) = false:=by assumption
       have e2 : ((a.f 1).n != (b.f 1).n) = false:=by assumption
       have e3 : (!((a.f 2).s.toList == (b.f 2).s.toList)) = true:=by assumption
       rw [hC,if_neg (by rw [e1]; decide),if_neg (by rw [e2]; decide),if_pos e3]
     . have e1 : ((a.f 0).n != (b.f 0).n) = false:=by assumption
       have e2 : ((a.f 1).n != (b.f 1).n) = false:=by assumption
       have e3 : (!((a.f 2).s.toList == (b.f 2).s.toList)) = false:=by assumption
       rw [if_neg (by rw [e1]; decide),if_neg (by rw [e2]; decide),if_neg (by rw [e3]; decide)] at hC
       refine z7 (fun j st => j = 0 /\ Sub (cx EN5 Tryz.prog s w he) st (HVI a b 0)) 0 ⟨rfl,?_⟩ ?_
       . refine Sub.live ⟨rfl,rfl,rfl,?_,rfl,trivial⟩ ⟨rfl,rfl,trivial⟩
         show V.c (.int .i64 (if ((b.f 3).l.length : Int) < (a.f 3).l.length then ((b.f 3).l.length : Int) else ((a.f 3).l.length : Int))) = _
         rw [min_int]
       . clear e1 e2 e3
         rintro j st ⟨rfl,hs2⟩
         refine z8 hs2 ?_
         have f0 : decide (((0 : Nat) : Int) < ((min (a.f 3).l.length (b.f 3).l.length : Nat) : Int)) = false:=by rw [hz,Nat.min_zero]; rfl
         repeat' (first
|apply zS
 . conv => lhs; whnf
 . assumption
|refine zA ?_
|refine zI ?_
|refine zb ?_
|refine zU ?_
|apply aw_1
 conv => whnf
 refine ⟨?_,trivial⟩
|apply s_1
 conv => whnf; arg 1; arg 4; arg 3; whnf
 refine ⟨?_,?_⟩
|apply zd rfl
 . conv => lhs; whnf
 . conv => lhs; whnf
 . first | exact c4 _ _
|refine zG ?_
|refine zB rfl ?_
|refine zD ?_
|exact trivial)
         all_goals first
          | exact zo (by omega)
          | (refine zh (j':=0) (by omega) (.inr ⟨rfl,Sub.live ⟨?_,rfl,trivial⟩ trivial⟩)
             rw [hC]; rfl)
          | skip
   . refine z8 hs2 ?_
     repeat' (first
|refine zA ?_
|refine zI ?_
|refine zb ?_
|apply aw_1
 conv => whnf
 refine ⟨?_,trivial⟩
|apply s_1
 conv => whnf; arg 1; arg 4; arg 3; whnf
 refine ⟨?_,?_⟩
|refine zG ?_
|refine zB rfl ?_
|refine zJ ?_
|refine zD ?_
|refine zH ?_
|refine ⟨_,by conv => lhs; whnf; arg 2; whnf,?_⟩; conv => rhs; whnf
|exact trivial)
theorem sameZU_ac (d : D) : AC EN5 Tryz.prog 46 [.agg (cellsV Tryz.prog 12 62 d),.agg (cellsV Tryz.prog 12 62 zV)] (.c (.bool ((d.f 0).n == 0 && (d.f 1).n == 0 && noneS (d.f 2).s && decide ((d.f 3).l.length = 0)))):=by
 have hc:=cmpZ_ac d
 have e : (cmpV 1 d zV == 0) = ((d.f 0).n == 0 && (d.f 1).n == 0 && noneS (d.f 2).s && decide ((d.f 3).l.length = 0)):=by
  show ((if (d.f 0).n != 0 then ordI (d.f 0).n 0 else if (d.f 1).n != 0 then ordI (d.f 1).n 0 else if !((d.f 2).s.toList == ({ data:=#[] } : ByteArray).toList) then Lib.compareBytes (tx (d.f 2).s) (tx ({ data:=#[] } : ByteArray)) else cmpIt (cmpV 0) d zV (min (d.f 3).l.length 0) 0) == 0) = _
  rw [zBP]
  by_cases h0 : (d.f 0).n = 0
  . by_cases h1 : (d.f 1).n = 0
    . by_cases h2 : noneS (d.f 2).s = true
      . have e0 : cmpIt (cmpV 0) d zV 0 0 = ordI (d.f 3).l.length 0:=rfl
        have e1:=@zEB ((d.f 3).l.length : Int) 0
        simp only [h0,h1,h2,Nat.min_zero,e0]
        simp only [bne_self_eq_false,Bool.false_eq_true,if_false,Bool.not_true,beq_self_eq_true,Bool.true_and]
        rw [Bool.eq_iff_iff]
        simp only [beq_iff_eq,decide_eq_true_eq,e1]
        omega
      . have h2' : noneS (d.f 2).s = false:=by simpa using h2
        have e1:=zGf (tx (d.f 2).s) (tx ({ data:=#[] } : ByteArray))
        have e2 : ¬ tx (d.f 2).s = tx ({ data:=#[] } : ByteArray):=fun h => by
         unfold noneS at h2
         exact h2 (by rw [show (d.f 2).s.data.toList = [] from h]; rfl)
        have e3:=fun h => e2 (e1.1 h)
        simp [h0,h1,h2']
        exact e3
    . have e1 : (ordI (d.f 1).n 0 == 0) = false:=by
       have:=@zEB (d.f 1).n 0
       simp only [beq_eq_false_iff_ne,ne_eq,this]
       exact h1
      have e2 : ((d.f 1).n == 0) = false:=by simpa using h1
      simp [h0,h1,e1,e2]
  . have e1 : (ordI (d.f 0).n 0 == 0) = false:=by
     have:=@zEB (d.f 0).n 0
     simp only [beq_eq_false_iff_ne,ne_eq,this]
     exact h0
    have e2 : ((d.f 0).n == 0) = false:=by simpa using h0
    simp [h0,e1,e2]
 rw [<- e]
 refine zX 9 Tryz.func46 rfl rfl rfl rfl ?_
 intro s w he
 repeat' (first
|refine zA ?_
|refine zI ?_
|refine zb ?_
|apply aw_1
 conv => whnf
 refine ⟨?_,trivial⟩
|apply s_1
 conv => whnf; arg 1; arg 4; arg 3; whnf
 refine ⟨?_,?_⟩
|apply zd rfl
 . conv => lhs; whnf
 . conv => lhs; whnf
 . first | exact hc
|apply zAC rfl rfl rfl rfl
 . conv => lhs; whnf; arg 1; whnf
 . rfl
|refine zH ?_
|refine ⟨_,by conv => lhs; whnf; arg 2; whnf,?_⟩; conv => rhs; whnf
|exact trivial)
theorem zFJ (d : D) : AC EN5 Tryz.prog 21 [.agg (cellsV Tryz.prog 12 64 d)] (.c (.bool (zDc d))):=by
 have h1:=zAz (d.f 0).s
 have h2:=zGD (d.f 1)
 have h3:=sameZU_ac (d.f 3)
 have h4:=litU_ac (d.f 3)
 have h5:=zGi _ (d.f 3) (zDS (bulkD (d.f 3)) (d.f 3) (Nat.le_refl _))
 have e : decide ((((d.f 3).f 4).l.length : Int) = 0) = decide (((d.f 3).f 4).l.length = 0):=decide_eq_decide.2 (by omega)
 have e2 : ((((d.f 3).f 4).l.length : Int) == 0) = decide (((d.f 3).f 4).l.length = 0):=by rw [Bool.eq_iff_iff]; simp only [beq_iff_eq,decide_eq_true_eq]; omega
 unfold zDc
 refine zX 35 Tryz.func21 rfl rfl rfl rfl ?_
 intro s w he
 repeat' (first
|apply zA5 ((.agg (cellsV Tryz.prog 12 62 zV))) rfl rfl
 . conv => lhs; whnf; arg 2; whnf
 . repeat' (first | exact VLe.refl _ | exact VLe.nil _ | exact VLe.lit _ _ | exact VLe.own _ _ _ | apply VLe.agg | apply VLeL.cons | exact VLeL.nil)
|refine zA ?_
|refine zI ?_
|refine zb ?_
|apply aw_1
 conv => whnf
 refine ⟨?_,trivial⟩
|apply zg rfl rfl
 . conv => lhs; whnf
 . conv => lhs; whnf
 . first | exact bT1 ‹_› | exact bT2 ‹_›
|apply ze rfl rfl
 . conv => lhs; whnf
 . conv => lhs; whnf
 . first | exact bF1 ‹_› | exact bF2 ‹_›
|apply s_1
 conv => whnf; arg 1; arg 4; arg 3; whnf
 refine ⟨?_,?_⟩
|apply zd rfl
 . conv => lhs; whnf
 . conv => lhs; whnf
 . first | exact h1 | exact h2 | exact h3 | exact h4 | exact h5
|apply zAC rfl rfl rfl rfl
 . conv => lhs; whnf; arg 1; whnf
 . rfl
|apply zM rfl
 . conv => lhs; whnf
 . conv => lhs; whnf
 . first | rfl | assumption
 . conv => lhs; whnf; arg 2; whnf
|apply zR rfl
 . conv => lhs; whnf
 . conv => lhs; whnf
 . first | rfl | assumption
 . conv => lhs; whnf
 . first | exact h1 | exact h2 | exact h3 | exact h4 | exact h5
|apply zl rfl
 . conv => lhs; whnf
 . conv => lhs; whnf
 . first | rfl | assumption
|apply zP rfl
 . conv => lhs; whnf
 . conv => lhs; whnf
 . conv => lhs; whnf; arg 2; whnf
|refine zT (by conv => lhs; whnf) ?_ ?_ <;> intro hb
|refine zK ?_
|refine zH ?_
|refine ⟨_,by conv => lhs; whnf; arg 2; whnf,?_⟩; conv => rhs; whnf
|exact trivial
|intro hg)
 all_goals
  clear h1 h2 h3 h4 h5 he
  refine congrArg (fun b => V.c (.bool b)) ?_
  simp only [e,e2] at *
  simp_all
theorem zGz (x : D) : AC EN5 Tryz.prog 20 [.agg (cellsV Tryz.prog 12 64 x)] (.c (.bool (!zDc x))):=by
 have h:=zFJ x
 refine zX 6 Tryz.func20 rfl rfl rfl rfl ?_
 intro s w he
 repeat' (first
|refine zA ?_
|refine zI ?_
|refine zb ?_
|apply aw_1
 conv => whnf
 refine ⟨?_,trivial⟩
|apply s_1
 conv => whnf; arg 1; arg 4; arg 3; whnf
 refine ⟨?_,?_⟩
|apply zd rfl
 . conv => lhs; whnf
 . conv => lhs; whnf
 . first | exact h
|apply zAC rfl rfl rfl rfl
 . conv => lhs; whnf; arg 1; whnf
 . rfl
|refine zH ?_
|refine ⟨_,by conv => lhs; whnf; arg 2; whnf,?_⟩; conv => rhs; whnf
|exact trivial)
theorem zGy (x : D) : AC EN5 Tryz.prog 24 [.agg (cellsV Tryz.prog 12 50 x)] (.c (.bool (!fragB8 x))):=by
 have h1:=zEp (x.f 0).s
 have h2:=zAz (x.f 1).s
 have h3:=zHe (x.f 2).l
 unfold fragB8
 refine zX 19 Tryz.func24 rfl rfl rfl rfl ?_
 intro s w he
 repeat' (first
|refine zA ?_
|refine zI ?_
|refine zb ?_
|apply aw_1
 conv => whnf
 refine ⟨?_,trivial⟩
|apply zg rfl rfl
 . conv => lhs; whnf
 . conv => lhs; whnf
 . first | exact bT1 ‹_› | exact bT2 ‹_›
|apply ze rfl rfl
 . conv => lhs; whnf
 . conv => lhs; whnf
 . first | exact bF1 ‹_› | exact bF2 ‹_›
|apply s_1
 conv => whnf; arg 1; arg 4; arg 3; whnf
 refine ⟨?_,?_⟩
|apply zd rfl
 . conv => lhs; whnf
 . conv => lhs; whnf
 . first | exact h1 | exact h2 | exact h3
|apply zAC rfl rfl rfl rfl
 . conv => lhs; whnf; arg 1; whnf
 . rfl
|apply zM rfl
 . conv => lhs; whnf
 . conv => lhs; whnf
 . first | rfl | assumption
 . conv => lhs; whnf; arg 2; whnf
|apply zR rfl
 . conv => lhs; whnf
 . conv => lhs; whnf
 . first | rfl | assumption
 . conv => lhs; whnf
 . first | exact h1 | exact h2 | exact h3
|apply zl rfl
 . conv => lhs; whnf
 . conv => lhs; whnf
 . first | rfl | assumption
|apply zP rfl
 . conv => lhs; whnf
 . conv => lhs; whnf
 . conv => lhs; whnf; arg 2; whnf
|refine zH ?_
|refine ⟨_,by conv => lhs; whnf; arg 2; whnf,?_⟩; conv => rhs; whnf
|exact trivial
|intro hg)
 all_goals
  clear h1 h2 h3 he
  refine congrArg (fun b => V.c (.bool b)) ?_
  simp_all
theorem varsB8_ac (l : List D) : AC EN5 Tryz.prog 19 [.sl 64 l,.c (.func (.func 20) #[] #[])] (.c (.bool (l.any fun x => !zDc x))):=by
 refine zEW 1 fun hL => ?_
 exact zEg l (fun x => !zDc x) hL.1 fun i hi => zGz _
theorem rightB8_ac (a b : List D) : AC EN5 Tryz.prog 7 [.agg [.sl 47 a,.sl 50 b]] (.c (.bool (queB8 a b))):=by
 refine ac_q2 fun hla hlb => ?_
 have hla : a.length <= 9223372036854775807:=hla
 have hlb : b.length <= 9223372036854775807:=hlb
 have hR : queB8 a b = ((decide (1 <= nW a b) && decide (nW a b <= 64)) && allIU opB8 a a.length 0 && !(b.any fun x => !fragB8 x)):=by
  rw [zCO,<- zIW]; rfl
 generalize queB8 a b = R at hR |-
 have hfr:=zEQ b (fun x => !fragB8 x) hlb fun i hi => zGy _
 have e1 : decide (IntKind.i64.wrap ((a.length : Int) + (b.length : Int)) < 1) = !decide (1 <= nW a b):=by
  unfold nW
  rw [Bool.eq_iff_iff]
  simp only [decide_eq_true_eq,Bool.not_eq_true',decide_eq_false_iff_not]
  omega
 have e2 : decide (IntKind.i64.wrap ((a.length : Int) + (b.length : Int)) > 64) = !decide (nW a b <= 64):=by
  unfold nW
  rw [Bool.eq_iff_iff]
  simp only [decide_eq_true_eq,Bool.not_eq_true',decide_eq_false_iff_not]
  omega
 refine zX 65 Tryz.func7 rfl rfl rfl rfl ?_
 intro s w he
 repeat' (first
|apply zBo (y:=.tmp _) rfl rfl rfl
 . conv => lhs; whnf
 . conv => lhs; whnf
|refine zA ?_
|refine zI ?_
|refine zb ?_
|apply aw_1
 conv => whnf
 refine ⟨?_,trivial⟩
|apply zg rfl rfl
 . conv => lhs; whnf
 . conv => lhs; whnf
 . first | exact bT1 ‹_› | exact bT2 ‹_›
|apply ze rfl rfl
 . conv => lhs; whnf
 . conv => lhs; whnf
 . first | exact bF1 ‹_› | exact bF2 ‹_›
|apply s_1
 conv => whnf; arg 1; arg 4; arg 3; whnf
 refine ⟨?_,?_⟩
|apply zAC rfl rfl rfl rfl
 . conv => lhs; whnf; arg 1; whnf
 . rfl
|apply zM rfl
 . conv => lhs; whnf
 . conv => lhs; whnf
 . first | rfl | assumption
 . conv => lhs; whnf; arg 2; whnf
|apply zl rfl
 . conv => lhs; whnf
 . conv => lhs; whnf
 . first | rfl | assumption
|apply zP rfl
 . conv => lhs; whnf
 . conv => lhs; whnf
 . conv => lhs; whnf; arg 2; whnf
|refine zT (by conv => lhs; whnf) ?_ ?_ <;> intro hb
|refine zK ?_
|refine zH ?_
|refine ⟨_,by conv => lhs; whnf; arg 2; whnf,?_⟩; conv => rhs; whnf
|exact trivial
|intro hg)
 . simp only [e1,e2] at *
   generalize decide (nW a b <= 64) = x at *
   simp_all
 . have hR2 : R = (allIU opB8 a a.length 0 && !(b.any fun x => !fragB8 x)):=by
    simp only [e1,e2] at *
    simp_all
   clear hR hb hg e1 e2
   refine z7 (fun j st => ∃ i,i + j = a.length /\ R = (allIU opB8 a j i && !(b.any fun x => !fragB8 x)) /\ Sub (cx EN5 Tryz.prog s w he) st (HQr a b i)) a.length ⟨0,by omega,hR2,Sub.live ⟨rfl,rfl,rfl,rfl,trivial⟩ ⟨rfl,trivial⟩⟩ ?_
   clear hR2
   rintro j st ⟨i,hij,hR,hs2⟩
   refine z8 hs2 ?_
   clear hs2
   by_cases hi : i < a.length
   . obtain ⟨j,rfl⟩ : ∃ q,j = q + 1:=⟨j - 1,by omega⟩
     have f1 : decide ((i : Int) < (a.length : Nat)) = true:=decide_eq_true (by omega)
     have h1:=zAz ((gD a i).f 1).s
     have h2:=varsB8_ac ((gD a i).f 2).l
     have h3:=zHe ((gD a i).f 3).l
     have g1 : decide (((gD a i).f 0).n < 1) = !decide (1 <= ((gD a i).f 0).n):=by
      rw [Bool.eq_iff_iff]
      simp only [decide_eq_true_eq,Bool.not_eq_true',decide_eq_false_iff_not]
      omega
     have g2 : decide (((gD a i).f 0).n > 3) = !decide (((gD a i).f 0).n <= 3):=by
      rw [Bool.eq_iff_iff]
      simp only [decide_eq_true_eq,Bool.not_eq_true',decide_eq_false_iff_not]
      omega
     have g3 : decide ((((gD a i).f 2).l.length : Int) > 16) = !decide (((gD a i).f 2).l.length <= 16):=by
      rw [Bool.eq_iff_iff]
      simp only [decide_eq_true_eq,Bool.not_eq_true',decide_eq_false_iff_not]
      omega
     have g4:=zBP ((gD a i).f 1).s
     have hR' : R = ((decide (1 <= ((gD a i).f 0).n) && decide (((gD a i).f 0).n <= 3)) && (noneS ((gD a i).f 1).s || nameB ((gD a i).f 1).s) && decide (((gD a i).f 2).l.length <= 16) && !(((gD a i).f 2).l.any fun x => !zDc x) && setB8 ((gD a i).f 3).l && allIU opB8 a j (i + 1) && !(b.any fun x => !fragB8 x)):=by
      rw [hR,<- Bool.decide_and]; rfl
     clear hR hfr
     repeat' (first
|apply zq rfl rfl rfl
 . conv => lhs; whnf
 . first | rfl | assumption
 . conv => lhs; whnf
 . first | exact bT1 ‹_› | exact bT2 ‹_› | rfl
|apply zu rfl rfl rfl
 . conv => lhs; whnf
 . first | rfl | assumption
 . conv => lhs; whnf
 . first | exact bF1 ‹_› | exact bF2 ‹_› | rfl
|apply zW
 . conv => lhs; whnf
 . assumption
|refine zA ?_
|refine zI ?_
|refine zb ?_
|refine zU ?_
|apply aw_1
 conv => whnf
 refine ⟨?_,trivial⟩
|apply zg rfl rfl
 . conv => lhs; whnf
 . conv => lhs; whnf
 . first | exact bT1 ‹_› | exact bT2 ‹_›
|apply ze rfl rfl
 . conv => lhs; whnf
 . conv => lhs; whnf
 . first | exact bF1 ‹_› | exact bF2 ‹_›
|apply s_1
 conv => whnf; arg 1; arg 4; arg 3; whnf
 refine ⟨?_,?_⟩
|apply zd rfl
 . conv => lhs; whnf
 . conv => lhs; whnf
 . first | exact h1 | exact h2 | exact h3
|apply zr rfl rfl rfl
 . conv => lhs; whnf
 . conv => lhs; whnf; arg 1; whnf
 . conv => lhs; whnf; arg 1; whnf
 . exact ⟨by kernel_rfl,by kernel_rfl⟩
 . rfl
|apply zM rfl
 . conv => lhs; whnf
 . conv => lhs; whnf
 . first | rfl | assumption
 . conv => lhs; whnf; arg 2; whnf
|apply zR rfl
 . conv => lhs; whnf
 . conv => lhs; whnf
 . first | rfl | assumption
 . conv => lhs; whnf
 . first | exact h1 | exact h2 | exact h3
|apply zl rfl
 . conv => lhs; whnf
 . conv => lhs; whnf
 . first | rfl | assumption
|apply zP rfl
 . conv => lhs; whnf
 . conv => lhs; whnf
 . conv => lhs; whnf; arg 2; whnf
|refine zT (by conv => lhs; whnf) ?_ ?_ <;> intro hb
|refine zK ?_
|refine zC ?_
|refine zL ?_
|refine zH ?_
|refine ⟨_,by conv => lhs; whnf; arg 2; whnf,?_⟩; conv => rhs; whnf
|exact trivial
|intro hg)
     all_goals first
      | exact zo (by omega)
      | exact zBM hi
      | refine congrArg (fun b => V.c (.bool b)) ?_
      | refine zh (j':=j) (by omega) ⟨i + 1,by omega,?_,Sub.live ⟨rfl,rfl,rfl,rfl,trivial⟩ ⟨rfl,trivial⟩⟩
     all_goals
      clear h1 h2 h3
      simp only [Int.toNat_natCast,Nat.reduceAdd,g1,g2,g3,g4] at *
      clear g1 g2 g3 g4
      generalize setB8 ((gD a i).f 3).l = a1 at *
      generalize (((gD a i).f 2).l.any fun x => !zDc x) = a2 at *
      generalize decide (((gD a i).f 2).l.length <= 16) = a3 at *
      generalize noneS ((gD a i).f 1).s = a4 at *
      generalize nameB ((gD a i).f 1).s = a5 at *
      generalize decide (((gD a i).f 0).n <= 3) = a6 at *
      generalize decide (1 <= ((gD a i).f 0).n) = a7 at *
      generalize (b.any fun x => !fragB8 x) = a8 at *
      generalize allIU opB8 a j (i + 1) = a9 at *
      clear f1 hi hij he
      simp_all
   . obtain rfl : j = 0:=by omega
     have f1 : decide ((i : Int) < (a.length : Nat)) = false:=decide_eq_false (by omega)
     repeat' (first
|apply zS
 . conv => lhs; whnf
 . assumption
|refine zA ?_
|refine zI ?_
|refine zb ?_
|apply aw_1
 conv => whnf
 refine ⟨?_,trivial⟩
|apply s_1
 conv => whnf; arg 1; arg 4; arg 3; whnf
 refine ⟨?_,?_⟩
|apply zd rfl
 . conv => lhs; whnf
 . conv => lhs; whnf
 . first | exact hfr
|refine zG ?_
|refine zB rfl ?_
|refine zD ?_
|refine zH ?_
|refine ⟨_,by conv => lhs; whnf; arg 2; whnf,?_⟩; conv => rhs; whnf
|exact trivial)
     rw [hR]; rfl
 . simp only [e1,e2] at *
   simp_all
   try (intros; omega)
end Go.Proofs.YtdlnnlglmifceaaGreatDoor
namespace Go.Proofs.YtdlnnlglmifceaaGreatDoor
open Go.RowKit
set_option linter.unusedSectionVars false
attribute [local irreducible] wpList Calls Code.wp AW AWo OpOk seqK zAP zAR loopK endK AC zy Yld Sub
attribute [local irreducible] ACB ACX ACE absLexG YldG
theorem zD2 (x : ByteArray) : AC EN Tryz.prog 29 [.c (.string x)] (.c (.bool (titleR x))):=by
 have hn:=zAk x
 have hT : (x.toList == ({ data:=#[111,110] } : ByteArray).toList) = (x.data.toList == [111,110]):=str_is _ _
 unfold titleR
 refine zX 9 Tryz.func29 rfl rfl rfl rfl ?_
 intro s w he
 repeat' (first
|refine zA ?_
|refine zI ?_
|refine zb ?_
|apply aw_1
 conv => whnf
 refine ⟨?_,trivial⟩
|apply zg rfl rfl
 . conv => lhs; whnf
 . conv => lhs; whnf
 . first | exact bT1 ‹_› | exact bT2 ‹_›
|apply ze rfl rfl
 . conv => lhs; whnf
 . conv => lhs; whnf
 . first | exact bF1 ‹_› | exact bF2 ‹_›
|apply s_1
 conv => whnf; arg 1; arg 4; arg 3; whnf
 refine ⟨?_,?_⟩
|apply zd rfl
 . conv => lhs; whnf
 . conv => lhs; whnf
 . first | exact hn
|apply zM rfl
 . conv => lhs; whnf
 . conv => lhs; whnf
 . first | rfl | assumption
 . conv => lhs; whnf; arg 2; whnf
|apply zl rfl
 . conv => lhs; whnf
 . conv => lhs; whnf
 . first | rfl | assumption
|apply zP rfl
 . conv => lhs; whnf
 . conv => lhs; whnf
 . conv => lhs; whnf; arg 2; whnf
|refine zH ?_
|refine ⟨_,by conv => lhs; whnf; arg 2; whnf,?_⟩; conv => rhs; whnf
|exact trivial
|intro hg)
 all_goals
  clear hn he
  refine congrArg (fun b => V.c (.bool b)) ?_
  simp only [hT] at *
  simp_all
noncomputable def HqargsB8F (l : List D) (i : Nat) : Vst 29:=stS 29 [(0,.sl 68 l),(3,.c (.int .i64 (i : Int)))] []
theorem zFD (l : List D) : AC EN Tryz.prog 95 [.sl 68 l] (.c (.bool (argsB8 l))):=by
 refine zEW 1 fun hL => ?_
 have hl : l.length <= 9223372036854775807:=hL.1
 clear hL
 have hR : argsB8 l = (allIU zDi l l.length 0 && decide (l.length <= 16)):=by rw [zBd,Bool.and_comm]; rfl
 generalize argsB8 l = R at hR |-
 refine zX 29 Tryz.func95 rfl rfl rfl rfl ?_
 intro s w he
 repeat' (first
|refine zA ?_
|refine zI ?_
|refine zb ?_
|apply aw_1
 conv => whnf
 refine ⟨?_,trivial⟩
|apply s_1
 conv => whnf; arg 1; arg 4; arg 3; whnf
 refine ⟨?_,?_⟩
|exact trivial)
 refine z7 (fun j st => ∃ i,i + j = l.length /\ R = (allIU zDi l j i && decide (l.length <= 16)) /\ Sub (cx EN Tryz.prog s w he) st (HqargsB8F l i)) l.length ⟨0,by omega,hR,Sub.live ⟨rfl,rfl,trivial⟩ trivial⟩ ?_
 clear hR
 rintro j st ⟨i,hij,hR,hs2⟩
 refine z8 hs2 ?_
 clear hs2
 by_cases hi : i < l.length
 . obtain ⟨j,rfl⟩ : ∃ q,j = q + 1:=⟨j - 1,by omega⟩
   have f1 : decide ((i : Int) < (l.length : Nat)) = true:=decide_eq_true (by omega)
   have hR' : R = (zDi (gD l i) && allIU zDi l j (i + 1) && decide (l.length <= 16)):=hR
   clear hR
   have h1:=zAk ((gD l i).f 0).s
   have h2:=zHv ((gD l i).f 1)
   repeat' (first
|apply zW
 . conv => lhs; whnf
 . assumption
|refine zA ?_
|refine zI ?_
|refine zb ?_
|refine zU ?_
|apply aw_1
 conv => whnf
 refine ⟨?_,trivial⟩
|apply zg rfl rfl
 . conv => lhs; whnf
 . conv => lhs; whnf
 . first | exact bT1 ‹_› | exact bT2 ‹_›
|apply ze rfl rfl
 . conv => lhs; whnf
 . conv => lhs; whnf
 . first | exact bF1 ‹_› | exact bF2 ‹_›
|apply s_1
 conv => whnf; arg 1; arg 4; arg 3; whnf
 refine ⟨?_,?_⟩
|apply zd rfl
 . conv => lhs; whnf
 . conv => lhs; whnf
 . first | exact h1 | exact h2
|apply zM rfl
 . conv => lhs; whnf
 . conv => lhs; whnf
 . first | rfl | assumption
 . conv => lhs; whnf; arg 2; whnf
|apply zR rfl
 . conv => lhs; whnf
 . conv => lhs; whnf
 . first | rfl | assumption
 . conv => lhs; whnf
 . first | exact h1 | exact h2
|apply zl rfl
 . conv => lhs; whnf
 . conv => lhs; whnf
 . first | rfl | assumption
|apply zP rfl
 . conv => lhs; whnf
 . conv => lhs; whnf
 . conv => lhs; whnf; arg 2; whnf
|refine zT (by conv => lhs; whnf) ?_ ?_ <;> intro hb
|refine zK ?_
|refine zC ?_
|refine zL ?_
|refine zH ?_
|refine ⟨_,by conv => lhs; whnf; arg 2; whnf,?_⟩; conv => rhs; whnf
|exact trivial
|intro hg)
   all_goals first
    | exact zo (by omega)
    | exact zBM hi
    | (have e : zDi (gD l i) = false:=by
        clear hR' he
        unfold zDi
        simp_all
       rw [hR',e]; rfl)
    | (have e : zDi (gD l i) = true:=by
        clear hR' he
        unfold zDi
        simp_all
       exact zh (j':=j) (by omega) ⟨i + 1,by omega,by rw [hR',e,Bool.true_and],Sub.live ⟨rfl,rfl,trivial⟩ trivial⟩)
    | skip
 . obtain rfl : j = 0:=by omega
   have f1 : decide ((i : Int) < (l.length : Nat)) = false:=decide_eq_false (by omega)
   repeat' (first
|apply zS
 . conv => lhs; whnf
 . assumption
|refine zA ?_
|refine zI ?_
|refine zb ?_
|apply aw_1
 conv => whnf
 refine ⟨?_,trivial⟩
|apply s_1
 conv => whnf; arg 1; arg 4; arg 3; whnf
 refine ⟨?_,?_⟩
|refine zG ?_
|refine zB rfl ?_
|refine zD ?_
|refine zH ?_
|refine ⟨_,by conv => lhs; whnf; arg 2; whnf,?_⟩; conv => rhs; whnf
|exact trivial)
   rw [hR,allIU,Bool.true_and,le16B8]
noncomputable def HqdirsB8F (l : List D) (i : Nat) : Vst 29:=stS 29 [(0,.sl 129 l),(3,.c (.int .i64 (i : Int)))] []
theorem dirsB8F_ac (l : List D) : AC EN Tryz.prog 94 [.sl 129 l] (.c (.bool (dirsB8 l))):=by
 refine zEW 1 fun hL => ?_
 have hl : l.length <= 9223372036854775807:=hL.1
 clear hL
 have hR : dirsB8 l = (allIU zDg l l.length 0 && decide (l.length <= 16)):=by rw [zBd,Bool.and_comm]; rfl
 generalize dirsB8 l = R at hR |-
 refine zX 29 Tryz.func94 rfl rfl rfl rfl ?_
 intro s w he
 repeat' (first
|refine zA ?_
|refine zI ?_
|refine zb ?_
|apply aw_1
 conv => whnf
 refine ⟨?_,trivial⟩
|apply s_1
 conv => whnf; arg 1; arg 4; arg 3; whnf
 refine ⟨?_,?_⟩
|exact trivial)
 refine z7 (fun j st => ∃ i,i + j = l.length /\ R = (allIU zDg l j i && decide (l.length <= 16)) /\ Sub (cx EN Tryz.prog s w he) st (HqdirsB8F l i)) l.length ⟨0,by omega,hR,Sub.live ⟨rfl,rfl,trivial⟩ trivial⟩ ?_
 clear hR
 rintro j st ⟨i,hij,hR,hs2⟩
 refine z8 hs2 ?_
 clear hs2
 by_cases hi : i < l.length
 . obtain ⟨j,rfl⟩ : ∃ q,j = q + 1:=⟨j - 1,by omega⟩
   have f1 : decide ((i : Int) < (l.length : Nat)) = true:=decide_eq_true (by omega)
   have hR' : R = (zDg (gD l i) && allIU zDg l j (i + 1) && decide (l.length <= 16)):=hR
   clear hR
   have h1:=zAk ((gD l i).f 0).s
   have h2:=zFD ((gD l i).f 1).l
   repeat' (first
|apply zW
 . conv => lhs; whnf
 . assumption
|refine zA ?_
|refine zI ?_
|refine zb ?_
|refine zU ?_
|apply aw_1
 conv => whnf
 refine ⟨?_,trivial⟩
|apply zg rfl rfl
 . conv => lhs; whnf
 . conv => lhs; whnf
 . first | exact bT1 ‹_› | exact bT2 ‹_›
|apply ze rfl rfl
 . conv => lhs; whnf
 . conv => lhs; whnf
 . first | exact bF1 ‹_› | exact bF2 ‹_›
|apply s_1
 conv => whnf; arg 1; arg 4; arg 3; whnf
 refine ⟨?_,?_⟩
|apply zd rfl
 . conv => lhs; whnf
 . conv => lhs; whnf
 . first | exact h1 | exact h2
|apply zM rfl
 . conv => lhs; whnf
 . conv => lhs; whnf
 . first | rfl | assumption
 . conv => lhs; whnf; arg 2; whnf
|apply zR rfl
 . conv => lhs; whnf
 . conv => lhs; whnf
 . first | rfl | assumption
 . conv => lhs; whnf
 . first | exact h1 | exact h2
|apply zl rfl
 . conv => lhs; whnf
 . conv => lhs; whnf
 . first | rfl | assumption
|apply zP rfl
 . conv => lhs; whnf
 . conv => lhs; whnf
 . conv => lhs; whnf; arg 2; whnf
|refine zT (by conv => lhs; whnf) ?_ ?_ <;> intro hb
|refine zK ?_
|refine zC ?_
|refine zL ?_
|refine zH ?_
|refine ⟨_,by conv => lhs; whnf; arg 2; whnf,?_⟩; conv => rhs; whnf
|exact trivial
|intro hg)
   all_goals first
    | exact zo (by omega)
    | exact zBM hi
    | (have e : zDg (gD l i) = false:=by
        clear hR' he
        unfold zDg
        simp_all
       rw [hR',e]; rfl)
    | (have e : zDg (gD l i) = true:=by
        clear hR' he
        unfold zDg
        simp_all
       exact zh (j':=j) (by omega) ⟨i + 1,by omega,by rw [hR',e,Bool.true_and],Sub.live ⟨rfl,rfl,trivial⟩ trivial⟩)
    | skip
 . obtain rfl : j = 0:=by omega
   have f1 : decide ((i : Int) < (l.length : Nat)) = false:=decide_eq_false (by omega)
   repeat' (first
|apply zS
 . conv => lhs; whnf
 . assumption
|refine zA ?_
|refine zI ?_
|refine zb ?_
|apply aw_1
 conv => whnf
 refine ⟨?_,trivial⟩
|apply s_1
 conv => whnf; arg 1; arg 4; arg 3; whnf
 refine ⟨?_,?_⟩
|refine zG ?_
|refine zB rfl ?_
|refine zD ?_
|refine zH ?_
|refine ⟨_,by conv => lhs; whnf; arg 2; whnf,?_⟩; conv => rhs; whnf
|exact trivial)
   rw [hR,allIU,Bool.true_and,le16B8]
noncomputable def HCqF (d : D) (i : Nat) : Vst 21:=stS 21 [(1,.bx 1 0),(3,.c (.int .i64 (i : Int)))] [(1,.box 62 (cellsV Tryz.prog 12 62 d))]
theorem zES : ∀ (k : Nat) (d : D),Dp k d -> AC EN Tryz.prog 57 [.agg (cellsV Tryz.prog 12 62 d)] (.c (.bool (bareR k d)))
 | 0,_,h => h.elim
 | k + 1,d,h => by
   refine zCP 2 (by kernel_rfl) fun hL => ?_
   have hl : (d.f 3).l.length <= 9223372036854775807:=(zBm hL).1
   clear hL
   have ih:=fun i (hi : i < (d.f 3).l.length) => zES k (gD (d.f 3).l i) (h i hi)
   have hR : bareR (k + 1) d = (allIU (bareR k) (d.f 3).l (d.f 3).l.length 0 && !((d.f 0).n == 7)):=by rw [zBd,Bool.and_comm]; rfl
   generalize bareR (k + 1) d = R at hR |-
   refine zX 21 Tryz.func57 rfl rfl rfl rfl ?_
   intro s w he
   repeat' (first
|refine zA ?_
|refine zI ?_
|refine zb ?_
|apply aw_1
 conv => whnf
 refine ⟨?_,trivial⟩
|apply s_1
 conv => whnf; arg 1; arg 4; arg 3; whnf
 refine ⟨?_,?_⟩
|apply zAC rfl rfl rfl rfl
 . conv => lhs; whnf; arg 1; whnf
 . rfl
|exact trivial)
   refine z7 (fun j st => ∃ i,i + j = (d.f 3).l.length /\ R = (allIU (bareR k) (d.f 3).l j i && !((d.f 0).n == 7)) /\ Sub (cx EN Tryz.prog s w he) st (HCqF d i)) (d.f 3).l.length ⟨0,by omega,hR,Sub.live ⟨rfl,rfl,trivial⟩ ⟨rfl,trivial⟩⟩ ?_
   clear hR
   rintro j st ⟨i,hij,hR,hs2⟩
   refine z8 hs2 ?_
   clear hs2
   by_cases hi : i < (d.f 3).l.length
   . obtain ⟨j,rfl⟩ : ∃ q,j = q + 1:=⟨j - 1,by omega⟩
     have f1 : decide ((i : Int) < ((d.f 3).l.length : Nat)) = true:=decide_eq_true (by omega)
     have hR' : R = (bareR k (gD (d.f 3).l i) && allIU (bareR k) (d.f 3).l j (i + 1) && !((d.f 0).n == 7)):=hR
     have ih2:=ih i hi
     repeat' (first
|apply zW
 . conv => lhs; whnf
 . assumption
|refine zA ?_
|refine zI ?_
|refine zb ?_
|refine zU ?_
|apply aw_1
 conv => whnf
 refine ⟨?_,trivial⟩
|apply s_1
 conv => whnf; arg 1; arg 4; arg 3; whnf
 refine ⟨?_,?_⟩
|apply zd rfl
 . conv => lhs; whnf
 . conv => lhs; whnf
 . first | exact ih2
|refine zT (by conv => lhs; whnf) ?_ ?_ <;> intro hb
|refine zK ?_
|refine zC ?_
|refine zL ?_
|refine zH ?_
|refine ⟨_,by conv => lhs; whnf; arg 2; whnf,?_⟩; conv => rhs; whnf
|exact trivial)
     all_goals first
      | exact zo (by omega)
      | exact zBM hi
      | (have e : bareR k (gD (d.f 3).l i) = false:=by simpa using (by assumption : (!bareR k (gD (d.f 3).l i)) = true)
         rw [hR',e]; rfl)
      | (have e : bareR k (gD (d.f 3).l i) = true:=by simpa using (by assumption : (!bareR k (gD (d.f 3).l i)) = false)
         exact zh (j':=j) (by omega) ⟨i + 1,by omega,by rw [hR',e,Bool.true_and],Sub.live ⟨rfl,rfl,trivial⟩ ⟨rfl,trivial⟩⟩)
      | skip
   . obtain rfl : j = 0:=by omega
     have f1 : decide ((i : Int) < ((d.f 3).l.length : Nat)) = false:=decide_eq_false (by omega)
     repeat' (first
|apply zS
 . conv => lhs; whnf
 . assumption
|refine zA ?_
|refine zI ?_
|refine zb ?_
|apply aw_1
 conv => whnf
 refine ⟨?_,trivial⟩
|apply s_1
 conv => whnf; arg 1; arg 4; arg 3; whnf
 refine ⟨?_,?_⟩
|refine zG ?_
|refine zB rfl ?_
|refine zD ?_
|refine zH ?_
|refine ⟨_,by conv => lhs; whnf; arg 2; whnf,?_⟩; conv => rhs; whnf
|exact trivial)
     rw [hR,allIU,Bool.true_and]; rfl
noncomputable def HSq (l : List D) (lv i : Nat) : Vst 31:=stS 31 [(0,.sl 57 l),(1,.c (.int .i64 (lv : Int))),(5,.c (.int .i64 (i : Int)))] []
theorem zEu (l : List D) (lv : Nat) (p : D -> Bool) (hc : lv <= 24 -> ∀ i,i < l.length -> AC EN Tryz.prog 58 [.agg (cellsV Tryz.prog 12 57 (gD l i)),.c (.int .i64 (lv : Int))] (.c (.bool (p (gD l i))))) :
 AC EN Tryz.prog 28 [.sl 57 l,.c (.int .i64 (lv : Int))] (.c (.bool (selsR p l 1 lv))):=by
 refine zEW 1 fun hL => ?_
 have hl : l.length <= 9223372036854775807:=hL.1
 clear hL
 have e1 : ((l.length : Int) == 0) = decide (l.length = 0):=by rw [Bool.eq_iff_iff]; simp only [beq_iff_eq,decide_eq_true_eq]; omega
 have e2 : decide ((l.length : Int) > 64) = !decide (l.length <= 64):=by rw [Bool.eq_iff_iff]; simp; omega
 have e4 : decide ((lv : Int) > 24) = !decide (lv <= 24):=by rw [Bool.eq_iff_iff]; simp; omega
 have hR:=selsB8_one p l lv
 generalize selsR p l 1 lv = R at hR |-
 refine zX 31 Tryz.func28 rfl rfl rfl rfl ?_
 intro s w he
 by_cases hok : (!decide (l.length = 0) && decide (l.length <= 64) && decide (lv <= 24)) = true
 . have hR2 : R = allIU p l l.length 0:=by rw [hR,hok,Bool.true_and]
   simp only [Bool.and_eq_true,Bool.not_eq_true',decide_eq_false_iff_not,decide_eq_true_eq] at hok
   have hlv24 : lv <= 24:=hok.2
   have f1 : ((l.length : Int) == 0) = false:=by rw [e1]; exact decide_eq_false hok.1.1
   have f2 : decide ((l.length : Int) > 64) = false:=decide_eq_false (by omega)
   have f3 : decide ((lv : Int) > 24) = false:=decide_eq_false (by omega)
   have g1 : (((l.length : Int) == 0) == false) = true:=by rw [f1]; rfl
   have g2 : (decide ((l.length : Int) > 64) == false) = true:=by rw [f2]; rfl
   have k1 : (((l.length : Int) == 0) == false) = false -> False:=fun h => by rw [g1] at h; cases h
   have k2 : (decide ((l.length : Int) > 64) == false) = false -> False:=fun h => by rw [g2] at h; cases h
   clear hR e1 e2 e4
   repeat' (first
|apply zS
 . conv => lhs; whnf
 . assumption
|refine zA ?_
|refine zI ?_
|refine zb ?_
|apply aw_1
 conv => whnf
 refine ⟨?_,trivial⟩
|apply ze rfl rfl
 . conv => lhs; whnf
 . conv => lhs; whnf
 . first | exact bF1 ‹_› | exact bF2 ‹_›
|apply s_1
 conv => whnf; arg 1; arg 4; arg 3; whnf
 refine ⟨?_,?_⟩
|apply zM rfl
 . conv => lhs; whnf
 . conv => lhs; whnf
 . first | rfl | assumption
 . conv => lhs; whnf; arg 2; whnf
|exact trivial)
   refine z7 (fun j st => ∃ i,i + j = l.length /\ R = allIU p l j i /\ Sub (cx EN Tryz.prog s w he) st (HSq l lv i)) l.length ⟨0,by omega,hR2,Sub.live ⟨rfl,rfl,rfl,trivial⟩ trivial⟩ ?_
   clear hR2 f1 f2 f3 g1 g2 k1 k2
   rintro j st ⟨i,hij,hR,hs2⟩
   refine z8 hs2 ?_
   clear hs2
   by_cases hi : i < l.length
   . obtain ⟨j,rfl⟩ : ∃ q,j = q + 1:=⟨j - 1,by omega⟩
     have f1 : decide ((i : Int) < (l.length : Nat)) = true:=decide_eq_true (by omega)
     have hR' : R = (p (gD l i) && allIU p l j (i + 1)):=hR
     have h1:=hc hlv24 i hi
     repeat' (first
|apply zW
 . conv => lhs; whnf
 . assumption
|refine zA ?_
|refine zI ?_
|refine zb ?_
|refine zU ?_
|apply aw_1
 conv => whnf
 refine ⟨?_,trivial⟩
|apply s_1
 conv => whnf; arg 1; arg 4; arg 3; whnf
 refine ⟨?_,?_⟩
|apply zd rfl
 . conv => lhs; whnf
 . conv => lhs; whnf
 . first | exact h1
|refine zT (by conv => lhs; whnf) ?_ ?_ <;> intro hb
|refine zK ?_
|refine zC ?_
|refine zL ?_
|refine zH ?_
|refine ⟨_,by conv => lhs; whnf; arg 2; whnf,?_⟩; conv => rhs; whnf
|exact trivial)
     all_goals first
      | exact zo (by omega)
      | exact zBM hi
      | (have e : p (gD l i) = false:=by simpa using (by assumption : (!p (gD l i)) = true)
         rw [hR',e]; rfl)
      | (have e : p (gD l i) = true:=by simpa using (by assumption : (!p (gD l i)) = false)
         exact zh (j':=j) (by omega) ⟨i + 1,by omega,by rw [hR',e,Bool.true_and],Sub.live ⟨rfl,rfl,rfl,trivial⟩ trivial⟩)
      | skip
   . obtain rfl : j = 0:=by omega
     have f1 : decide ((i : Int) < (l.length : Nat)) = false:=decide_eq_false (by omega)
     repeat' (first
|apply zS
 . conv => lhs; whnf
 . assumption
|refine zA ?_
|refine zI ?_
|refine zb ?_
|apply aw_1
 conv => whnf
 refine ⟨?_,trivial⟩
|apply s_1
 conv => whnf; arg 1; arg 4; arg 3; whnf
 refine ⟨?_,?_⟩
|refine zG ?_
|refine zB rfl ?_
|refine zD ?_
|refine zH ?_
|refine ⟨_,by conv => lhs; whnf; arg 2; whnf,?_⟩; conv => rhs; whnf
|exact trivial)
     rw [hR]; rfl
 . have hok : (!decide (l.length = 0) && decide (l.length <= 64) && decide (lv <= 24)) = false:=by simpa using hok
   have hR2 : R = false:=by rw [hR,hok,Bool.false_and]
   subst hR2
   clear hR
   have K : ∀ {x y z : Bool},((l.length : Int) == 0) = x -> decide ((l.length : Int) > 64) = y -> decide ((lv : Int) > 24) = z -> x = false -> y = false -> z = false -> False:=fun h1 h2 h3 h4 h5 h6 => by
    rw [e1] at h1; rw [e2] at h2; rw [e4] at h3
    rw [h4] at h1; rw [h5] at h2; rw [h6] at h3
    simp only [h1,Bool.not_eq_false'] at h2 h3
    rw [h1,h2,h3] at hok
    cases hok
   by_cases f1 : ((l.length : Int) == 0) = true
   . have k1 : (((l.length : Int) == 0) == false) = true -> False:=fun h => by rw [f1] at h; cases h
     repeat' (first
|exact (k1 ‹_›).elim
|refine zA ?_
|refine zI ?_
|refine zb ?_
|apply aw_1
 conv => whnf
 refine ⟨?_,trivial⟩
|apply zg rfl rfl
 . conv => lhs; whnf
 . conv => lhs; whnf
 . first | exact bT1 ‹_› | exact bT2 ‹_›
|apply s_1
 conv => whnf; arg 1; arg 4; arg 3; whnf
 refine ⟨?_,?_⟩
|apply zl rfl
 . conv => lhs; whnf
 . conv => lhs; whnf
 . first | rfl | assumption
|apply zP rfl
 . conv => lhs; whnf
 . conv => lhs; whnf
 . conv => lhs; whnf; arg 2; whnf
|refine zK ?_
|refine zH ?_
|refine ⟨_,by conv => lhs; whnf; arg 2; whnf,?_⟩; conv => rhs; whnf
|exact trivial
|intro hg)
   . have f1 : ((l.length : Int) == 0) = false:=by simpa using f1
     have g1 : (((l.length : Int) == 0) == false) = true:=by rw [f1]; rfl
     have k1 : (((l.length : Int) == 0) == false) = false -> False:=fun h => by rw [g1] at h; cases h
     by_cases f2 : decide ((l.length : Int) > 64) = true
     . have k2 : (decide ((l.length : Int) > 64) == false) = true -> False:=fun h => by rw [f2] at h; cases h
       repeat' (first
|exact (k2 ‹_›).elim
|refine zA ?_
|refine zI ?_
|refine zb ?_
|apply aw_1
 conv => whnf
 refine ⟨?_,trivial⟩
|apply zg rfl rfl
 . conv => lhs; whnf
 . conv => lhs; whnf
 . first | exact bT1 ‹_› | exact bT2 ‹_›
|apply ze rfl rfl
 . conv => lhs; whnf
 . conv => lhs; whnf
 . first | exact bF1 ‹_› | exact bF2 ‹_›
|apply s_1
 conv => whnf; arg 1; arg 4; arg 3; whnf
 refine ⟨?_,?_⟩
|apply zM rfl
 . conv => lhs; whnf
 . conv => lhs; whnf
 . first | rfl | assumption
 . conv => lhs; whnf; arg 2; whnf
|apply zl rfl
 . conv => lhs; whnf
 . conv => lhs; whnf
 . first | rfl | assumption
|apply zP rfl
 . conv => lhs; whnf
 . conv => lhs; whnf
 . conv => lhs; whnf; arg 2; whnf
|refine zK ?_
|refine zH ?_
|refine ⟨_,by conv => lhs; whnf; arg 2; whnf,?_⟩; conv => rhs; whnf
|exact trivial
|intro hg)
     . have f2 : decide ((l.length : Int) > 64) = false:=by simpa using f2
       have g2 : (decide ((l.length : Int) > 64) == false) = true:=by rw [f2]; rfl
       have k2 : (decide ((l.length : Int) > 64) == false) = false -> False:=fun h => by rw [g2] at h; cases h
       have f3 : decide ((lv : Int) > 24) = true:=by
        cases f3 : decide ((lv : Int) > 24) with
        | true => rfl
        | false => exact (K f1 f2 f3 rfl rfl rfl).elim
       repeat' (first
|apply zW
 . conv => lhs; whnf
 . assumption
|refine zA ?_
|refine zI ?_
|refine zb ?_
|apply aw_1
 conv => whnf
 refine ⟨?_,trivial⟩
|apply ze rfl rfl
 . conv => lhs; whnf
 . conv => lhs; whnf
 . first | exact bF1 ‹_› | exact bF2 ‹_›
|apply s_1
 conv => whnf; arg 1; arg 4; arg 3; whnf
 refine ⟨?_,?_⟩
|apply zM rfl
 . conv => lhs; whnf
 . conv => lhs; whnf
 . first | rfl | assumption
 . conv => lhs; whnf; arg 2; whnf
|refine zK ?_
|refine zH ?_
|refine ⟨_,by conv => lhs; whnf; arg 2; whnf,?_⟩; conv => rhs; whnf
|exact trivial)
theorem zF5 : ∀ (k lv : Nat) (d : D),bulkD d <= k -> lv <= 24 -> AC EN Tryz.prog 58 [.agg (cellsV Tryz.prog 12 57 d),.c (.int .i64 (lv : Int))] (.c (.bool (selB8 k lv d)))
 | 0,_,d,h,_ => by have:=zBc d; omega
 | k + 1,lv,d,h,hlv => by
   have hB:=(sel_b (B:=bulkD d) (d:=d) (Nat.le_refl _)).l6
   have h1:=zAk (d.f 1).s
   have h2:=zAk (d.f 2).s
   have h3:=zAk (d.f 3).s
   have h4:=zFD (d.f 4).l
   have h5:=dirsB8F_ac (d.f 5).l
   have h6:=zD2 (d.f 2).s
   have hs1:=zEu (d.f 6).l (lv + 1) (selB8 k (lv + 1)) fun h24 i hi => zF5 k (lv + 1) _ (by have:=zA9 hi; omega) h24
   have hs0:=zGu (selB8 k (lv + 1)) (d.f 6).l (lv + 1)
   have hz4 : (((d.f 4).l.length : Int) == 0) = decide ((d.f 4).l.length = 0):=by rw [Bool.eq_iff_iff]; simp
   have hz6 : (((d.f 6).l.length : Int) == 0) = decide ((d.f 6).l.length = 0):=by rw [Bool.eq_iff_iff]; simp
   have n1:=zBP (d.f 1).s
   have n2:=zBP (d.f 2).s
   have n3:=zBP (d.f 3).s
   have e : cellsV Tryz.prog 12 57 d = [.c (.int .i64 (d.f 0).n),.c (.string (d.f 1).s),.c (.string (d.f 2).s),.c (.string (d.f 3).s),.sl 68 (d.f 4).l,.sl 129 (d.f 5).l,.sl 57 (d.f 6).l]:=rfl
   unfold selB8
   rw [e,hs0]
   by_cases k1 : (d.f 0).n = 1
   . rw [if_pos k1,k1]
     refine zX 110 Tryz.func58 rfl rfl rfl rfl ?_
     intro s w he
     repeat' (first
|apply zq rfl rfl rfl
 . conv => lhs; whnf
 . first | rfl | assumption
 . conv => lhs; whnf
 . first | exact bT1 ‹_› | exact bT2 ‹_› | rfl
|apply zu rfl rfl rfl
 . conv => lhs; whnf
 . first | rfl | assumption
 . conv => lhs; whnf
 . first | exact bF1 ‹_› | exact bF2 ‹_› | rfl
|refine zA ?_
|refine zI ?_
|refine zb ?_
|apply aw_1
 conv => whnf
 refine ⟨?_,trivial⟩
|apply zg rfl rfl
 . conv => lhs; whnf
 . conv => lhs; whnf
 . first | exact bT1 ‹_› | exact bT2 ‹_›
|apply ze rfl rfl
 . conv => lhs; whnf
 . conv => lhs; whnf
 . first | exact bF1 ‹_› | exact bF2 ‹_›
|apply s_1
 conv => whnf; arg 1; arg 4; arg 3; whnf
 refine ⟨?_,?_⟩
|apply zd rfl
 . conv => lhs; whnf
 . conv => lhs; whnf
 . first | exact h1 | exact h2 | exact h4 | exact h5 | exact hs1
|apply zAC rfl rfl rfl rfl
 . conv => lhs; whnf; arg 1; whnf
 . rfl
|apply zM rfl
 . conv => lhs; whnf
 . conv => lhs; whnf
 . first | rfl | assumption
 . conv => lhs; whnf; arg 2; whnf
|apply zR rfl
 . conv => lhs; whnf
 . conv => lhs; whnf
 . first | rfl | assumption
 . conv => lhs; whnf
 . first | exact h1 | exact h2 | exact h4 | exact h5 | exact hs1
|apply zl rfl
 . conv => lhs; whnf
 . conv => lhs; whnf
 . first | rfl | assumption
|apply zP rfl
 . conv => lhs; whnf
 . conv => lhs; whnf
 . conv => lhs; whnf; arg 2; whnf
|refine zT (by conv => lhs; whnf) ?_ ?_ <;> intro hb
|refine zK ?_
|refine zC ?_
|refine zH ?_
|refine ⟨_,by conv => lhs; whnf; arg 2; whnf,?_⟩; conv => rhs; whnf
|exact trivial
|intro hg)
     all_goals first
      | exact zo (by omega)
      | (clear h1 h2 h3 h4 h5 h6 hs0 hs1 he e hB
         refine congrArg (fun b => V.c (.bool b)) ?_
         simp only [n1,n2,n3,hz4,hz6] at *
         clear n1 n2 n3 hz4 hz6
         generalize argsB8 (d.f 4).l = a1 at *
         generalize dirsB8 (d.f 5).l = a2 at *
         generalize noneS (d.f 1).s = a3 at *
         generalize noneS (d.f 3).s = a4 at *
         generalize nameB (d.f 1).s = a5 at *
         generalize nameB (d.f 2).s = a6 at *
         generalize selsR (selB8 k (lv + 1)) (d.f 6).l 1 (lv + 1) = a7 at *
         generalize decide ((d.f 6).l.length = 0) = a8 at *
         clear k1 h hlv
         simp_all)
   rw [if_neg k1]
   by_cases k2 : (d.f 0).n = 2
   . rw [if_pos k2,k2]
     refine zX 110 Tryz.func58 rfl rfl rfl rfl ?_
     intro s w he
     repeat' (first
|refine zA ?_
|refine zI ?_
|refine zb ?_
|apply aw_1
 conv => whnf
 refine ⟨?_,trivial⟩
|apply zg rfl rfl
 . conv => lhs; whnf
 . conv => lhs; whnf
 . first | exact bT1 ‹_› | exact bT2 ‹_›
|apply ze rfl rfl
 . conv => lhs; whnf
 . conv => lhs; whnf
 . first | exact bF1 ‹_› | exact bF2 ‹_›
|apply s_1
 conv => whnf; arg 1; arg 4; arg 3; whnf
 refine ⟨?_,?_⟩
|apply zd rfl
 . conv => lhs; whnf
 . conv => lhs; whnf
 . first | exact h4 | exact h5 | exact h6
|apply zAC rfl rfl rfl rfl
 . conv => lhs; whnf; arg 1; whnf
 . rfl
|apply zM rfl
 . conv => lhs; whnf
 . conv => lhs; whnf
 . first | rfl | assumption
 . conv => lhs; whnf; arg 2; whnf
|apply zR rfl
 . conv => lhs; whnf
 . conv => lhs; whnf
 . first | rfl | assumption
 . conv => lhs; whnf
 . first | exact h4 | exact h5 | exact h6
|apply zl rfl
 . conv => lhs; whnf
 . conv => lhs; whnf
 . first | rfl | assumption
|apply zP rfl
 . conv => lhs; whnf
 . conv => lhs; whnf
 . conv => lhs; whnf; arg 2; whnf
|refine zT (by conv => lhs; whnf) ?_ ?_ <;> intro hb
|refine zK ?_
|refine zC ?_
|refine zH ?_
|refine ⟨_,by conv => lhs; whnf; arg 2; whnf,?_⟩; conv => rhs; whnf
|exact trivial
|intro hg)
     all_goals
      clear h1 h2 h3 h4 h5 h6 hs0 hs1 he e hB
      refine congrArg (fun b => V.c (.bool b)) ?_
      simp only [n1,n2,n3,hz4,hz6] at *
      clear n1 n2 n3 hz4 hz6
      generalize argsB8 (d.f 4).l = a1 at *
      generalize dirsB8 (d.f 5).l = a2 at *
      generalize noneS (d.f 1).s = a3 at *
      generalize noneS (d.f 3).s = a4 at *
      generalize decide ((d.f 4).l.length = 0) = a5 at *
      generalize decide ((d.f 6).l.length = 0) = a6 at *
      generalize titleR (d.f 2).s = a7 at *
      clear k1 k2 h hlv
      simp_all
   rw [if_neg k2]
   by_cases k3 : (d.f 0).n = 3
   . rw [if_pos k3,k3]
     refine zX 110 Tryz.func58 rfl rfl rfl rfl ?_
     intro s w he
     repeat' (first
|apply zq rfl rfl rfl
 . conv => lhs; whnf
 . first | rfl | assumption
 . conv => lhs; whnf
 . first | exact bT1 ‹_› | exact bT2 ‹_› | rfl
|apply zu rfl rfl rfl
 . conv => lhs; whnf
 . first | rfl | assumption
 . conv => lhs; whnf
 . first | exact bF1 ‹_› | exact bF2 ‹_› | rfl
|refine zA ?_
|refine zI ?_
|refine zb ?_
|apply aw_1
 conv => whnf
 refine ⟨?_,trivial⟩
|apply zg rfl rfl
 . conv => lhs; whnf
 . conv => lhs; whnf
 . first | exact bT1 ‹_› | exact bT2 ‹_›
|apply ze rfl rfl
 . conv => lhs; whnf
 . conv => lhs; whnf
 . first | exact bF1 ‹_› | exact bF2 ‹_›
|apply s_1
 conv => whnf; arg 1; arg 4; arg 3; whnf
 refine ⟨?_,?_⟩
|apply zd rfl
 . conv => lhs; whnf
 . conv => lhs; whnf
 . first | exact h3 | exact h4 | exact h5 | exact hs1
|apply zAC rfl rfl rfl rfl
 . conv => lhs; whnf; arg 1; whnf
 . rfl
|apply zM rfl
 . conv => lhs; whnf
 . conv => lhs; whnf
 . first | rfl | assumption
 . conv => lhs; whnf; arg 2; whnf
|apply zR rfl
 . conv => lhs; whnf
 . conv => lhs; whnf
 . first | rfl | assumption
 . conv => lhs; whnf
 . first | exact h3 | exact h4 | exact h5 | exact hs1
|apply zl rfl
 . conv => lhs; whnf
 . conv => lhs; whnf
 . first | rfl | assumption
|apply zP rfl
 . conv => lhs; whnf
 . conv => lhs; whnf
 . conv => lhs; whnf; arg 2; whnf
|refine zT (by conv => lhs; whnf) ?_ ?_ <;> intro hb
|refine zK ?_
|refine zC ?_
|refine zH ?_
|refine ⟨_,by conv => lhs; whnf; arg 2; whnf,?_⟩; conv => rhs; whnf
|exact trivial
|intro hg)
     all_goals first
      | exact zo (by omega)
      | (clear h1 h2 h3 h4 h5 h6 hs0 hs1 he e hB
         refine congrArg (fun b => V.c (.bool b)) ?_
         simp only [n1,n2,n3,hz4,hz6] at *
         clear n1 n2 n3 hz4 hz6
         generalize argsB8 (d.f 4).l = a1 at *
         generalize dirsB8 (d.f 5).l = a2 at *
         generalize noneS (d.f 1).s = a3 at *
         generalize noneS (d.f 2).s = a4 at *
         generalize noneS (d.f 3).s = a5 at *
         generalize nameB (d.f 3).s = a6 at *
         generalize decide ((d.f 4).l.length = 0) = a8 at *
         generalize selsR (selB8 k (lv + 1)) (d.f 6).l 1 (lv + 1) = a7 at *
         clear k1 k2 k3 h hlv
         simp_all)
   rw [if_neg k3]
   have f1 : ((d.f 0).n == 1) = false:=by simpa using k1
   have f2 : ((d.f 0).n == 2) = false:=by simpa using k2
   have f3 : ((d.f 0).n == 3) = false:=by simpa using k3
   refine zX 110 Tryz.func58 rfl rfl rfl rfl ?_
   intro s w he
   repeat' (first
|apply zS
 . conv => lhs; whnf
 . assumption
|refine zA ?_
|refine zI ?_
|refine zb ?_
|refine zU ?_
|apply aw_1
 conv => whnf
 refine ⟨?_,trivial⟩
|apply zg rfl rfl
 . conv => lhs; whnf
 . conv => lhs; whnf
 . first | exact bT1 ‹_› | exact bT2 ‹_›
|apply ze rfl rfl
 . conv => lhs; whnf
 . conv => lhs; whnf
 . first | exact bF1 ‹_› | exact bF2 ‹_›
|apply s_1
 conv => whnf; arg 1; arg 4; arg 3; whnf
 refine ⟨?_,?_⟩
|apply zd rfl
 . conv => lhs; whnf
 . conv => lhs; whnf
 . first | exact h4 | exact h5
|apply zAC rfl rfl rfl rfl
 . conv => lhs; whnf; arg 1; whnf
 . rfl
|apply zM rfl
 . conv => lhs; whnf
 . conv => lhs; whnf
 . first | rfl | assumption
 . conv => lhs; whnf; arg 2; whnf
|apply zR rfl
 . conv => lhs; whnf
 . conv => lhs; whnf
 . first | rfl | assumption
 . conv => lhs; whnf
 . first | exact h4 | exact h5
|apply zl rfl
 . conv => lhs; whnf
 . conv => lhs; whnf
 . first | rfl | assumption
|apply zP rfl
 . conv => lhs; whnf
 . conv => lhs; whnf
 . conv => lhs; whnf; arg 2; whnf
|refine zT (by conv => lhs; whnf) ?_ ?_ <;> intro hb
|refine zK ?_
|refine zH ?_
|refine ⟨_,by conv => lhs; whnf; arg 2; whnf,?_⟩; conv => rhs; whnf
|exact trivial
|intro hg)
   all_goals
    clear h1 h2 h3 h4 h5 h6 hs0 hs1 he e hB
    refine congrArg (fun b => V.c (.bool b)) ?_
    simp
theorem zF2 (l : List D) : AC EN Tryz.prog 28 [.sl 57 l,.c (.int .i64 1)] (.c (.bool (setB8 l))):=
 zEu l 1 (selB8 (bulkL l) 1) fun h24 i hi => zF5 _ _ _ (zA9 hi) h24
def varsB8 (l : List D) : Bool:=decide (l.length <= 16) && !(l.any fun x => !zDc x)
noncomputable def HVq (l : List D) (i : Nat) : Vst 49:=stS 49 [(0,.sl 64 l),(3,.c (.int .i64 (i : Int)))] []
theorem varsB8F_ac (l : List D) : AC EN Tryz.prog 27 [.sl 64 l] (.c (.bool (varsB8 l))):=by
 refine zEW 1 fun hL => ?_
 have hl : l.length <= 9223372036854775807:=hL.1
 clear hL
 have hR : varsB8 l = (allIU zB9 l l.length 0 && decide (l.length <= 16)):=by
  rw [zBd,Bool.and_comm]
  have : (fun x => !zB9 x) = fun x => !zDc x:=funext fun x => by rw [varB8F_Q]
  rw [this]; rfl
 generalize varsB8 l = R at hR |-
 refine zX 49 Tryz.func27 rfl rfl rfl rfl ?_
 intro s w he
 repeat' (first
|refine zA ?_
|refine zI ?_
|refine zb ?_
|apply aw_1
 conv => whnf
 refine ⟨?_,trivial⟩
|apply s_1
 conv => whnf; arg 1; arg 4; arg 3; whnf
 refine ⟨?_,?_⟩
|exact trivial)
 refine z7 (fun j st => ∃ i,i + j = l.length /\ R = (allIU zB9 l j i && decide (l.length <= 16)) /\ Sub (cx EN Tryz.prog s w he) st (HVq l i)) l.length ⟨0,by omega,hR,Sub.live ⟨rfl,rfl,trivial⟩ trivial⟩ ?_
 clear hR
 rintro j st ⟨i,hij,hR,hs2⟩
 refine z8 hs2 ?_
 clear hs2
 by_cases hi : i < l.length
 . obtain ⟨j,rfl⟩ : ∃ q,j = q + 1:=⟨j - 1,by omega⟩
   have f1 : decide ((i : Int) < (l.length : Nat)) = true:=decide_eq_true (by omega)
   have hR' : R = (zB9 (gD l i) && allIU zB9 l j (i + 1) && decide (l.length <= 16)):=hR
   clear hR
   have h1:=zAk ((gD l i).f 0).s
   have h2:=refFU_ac ((gD l i).f 1)
   have h3:=zHv ((gD l i).f 3)
   have h4:=zES _ ((gD l i).f 3) (zDS (bulkD ((gD l i).f 3)) ((gD l i).f 3) (Nat.le_refl _))
   repeat' (first
|apply zW
 . conv => lhs; whnf
 . assumption
|refine zA ?_
|refine zI ?_
|refine zb ?_
|refine zU ?_
|apply aw_1
 conv => whnf
 refine ⟨?_,trivial⟩
|apply zg rfl rfl
 . conv => lhs; whnf
 . conv => lhs; whnf
 . first | exact bT1 ‹_› | exact bT2 ‹_›
|apply ze rfl rfl
 . conv => lhs; whnf
 . conv => lhs; whnf
 . first | exact bF1 ‹_› | exact bF2 ‹_›
|apply s_1
 conv => whnf; arg 1; arg 4; arg 3; whnf
 refine ⟨?_,?_⟩
|apply zd rfl
 . conv => lhs; whnf
 . conv => lhs; whnf
 . first | exact h1 | exact h2 | exact h3 | exact h4
|apply zr rfl rfl rfl
 . conv => lhs; whnf
 . conv => lhs; whnf; arg 1; whnf
 . conv => lhs; whnf; arg 1; whnf
 . exact ⟨by kernel_rfl,by kernel_rfl⟩
 . rfl
|apply zM rfl
 . conv => lhs; whnf
 . conv => lhs; whnf
 . first | rfl | assumption
 . conv => lhs; whnf; arg 2; whnf
|apply zR rfl
 . conv => lhs; whnf
 . conv => lhs; whnf
 . first | rfl | assumption
 . conv => lhs; whnf
 . first | exact h1 | exact h2 | exact h3 | exact h4
|apply zl rfl
 . conv => lhs; whnf
 . conv => lhs; whnf
 . first | rfl | assumption
|apply zP rfl
 . conv => lhs; whnf
 . conv => lhs; whnf
 . conv => lhs; whnf; arg 2; whnf
|refine zT (by conv => lhs; whnf) ?_ ?_ <;> intro hb
|refine zK ?_
|refine zC ?_
|refine zL ?_
|refine zH ?_
|refine ⟨_,by conv => lhs; whnf; arg 2; whnf,?_⟩; conv => rhs; whnf
|exact trivial
|intro hg)
   all_goals first
    | exact zo (by omega)
    | exact zBM hi
    | skip
   all_goals first
    | (have e : zB9 (gD l i) = false:=by
        clear hR' he h1 h2 h3 h4
        unfold zB9
        simp_all
       rw [hR',e]; rfl)
    | (have e : zB9 (gD l i) = true:=by
        clear hR' he h1 h2 h3 h4
        unfold zB9
        simp_all
       exact zh (j':=j) (by omega) ⟨i + 1,by omega,by rw [hR',e,Bool.true_and],Sub.live ⟨rfl,rfl,trivial⟩ trivial⟩)
    | skip
 . obtain rfl : j = 0:=by omega
   have f1 : decide ((i : Int) < (l.length : Nat)) = false:=decide_eq_false (by omega)
   repeat' (first
|apply zS
 . conv => lhs; whnf
 . assumption
|refine zA ?_
|refine zI ?_
|refine zb ?_
|apply aw_1
 conv => whnf
 refine ⟨?_,trivial⟩
|apply s_1
 conv => whnf; arg 1; arg 4; arg 3; whnf
 refine ⟨?_,?_⟩
|refine zG ?_
|refine zB rfl ?_
|refine zD ?_
|refine zH ?_
|refine ⟨_,by conv => lhs; whnf; arg 2; whnf,?_⟩; conv => rhs; whnf
|exact trivial)
   rw [hR,allIU,Bool.true_and,le16B8]
noncomputable def HRoq (a b : List D) (i : Nat) : Vst 92:=stS 92 [(1,.bx 1 0),(4,.c (.int .i64 (i : Int)))] [(1,.box 25 [.sl 47 a,.sl 50 b])]
noncomputable def HRfq (a b : List D) (i : Nat) : Vst 92:=stS 92 [(1,.bx 1 0),(6,.c (.int .i64 (i : Int)))] [(1,.box 25 [.sl 47 a,.sl 50 b])]
theorem zGx (a b : List D) : AC EN Tryz.prog 8 [.agg [.sl 47 a,.sl 50 b]] (.c (.bool (queB8 a b))):=by
 refine ac_q2 fun hla hlb => ?_
 have hla : a.length <= 9223372036854775807:=hla
 have hlb : b.length <= 9223372036854775807:=hlb
 have hR : queB8 a b = ((decide (1 <= nW a b) && decide (nW a b <= 64)) && allIU opB8 a a.length 0 && allIU fragB8 b b.length 0):=by
  rw [zCO,zCO]; rfl
 generalize queB8 a b = R at hR |-
 have e1 : decide (IntKind.i64.wrap ((a.length : Int) + (b.length : Int)) < 1) = !decide (1 <= nW a b):=by
  unfold nW
  rw [Bool.eq_iff_iff]
  simp only [decide_eq_true_eq,Bool.not_eq_true',decide_eq_false_iff_not]
  omega
 have e2 : decide (IntKind.i64.wrap ((a.length : Int) + (b.length : Int)) > 64) = !decide (nW a b <= 64):=by
  unfold nW
  rw [Bool.eq_iff_iff]
  simp only [decide_eq_true_eq,Bool.not_eq_true',decide_eq_false_iff_not]
  omega
 refine zX 92 Tryz.func8 rfl rfl rfl rfl ?_
 intro s w he
 repeat' (first
|apply zBo (y:=.tmp _) rfl rfl rfl
 . conv => lhs; whnf
 . conv => lhs; whnf
|refine zA ?_
|refine zI ?_
|refine zb ?_
|apply aw_1
 conv => whnf
 refine ⟨?_,trivial⟩
|apply zg rfl rfl
 . conv => lhs; whnf
 . conv => lhs; whnf
 . first | exact bT1 ‹_› | exact bT2 ‹_›
|apply ze rfl rfl
 . conv => lhs; whnf
 . conv => lhs; whnf
 . first | exact bF1 ‹_› | exact bF2 ‹_›
|apply s_1
 conv => whnf; arg 1; arg 4; arg 3; whnf
 refine ⟨?_,?_⟩
|apply zAC rfl rfl rfl rfl
 . conv => lhs; whnf; arg 1; whnf
 . rfl
|apply zM rfl
 . conv => lhs; whnf
 . conv => lhs; whnf
 . first | rfl | assumption
 . conv => lhs; whnf; arg 2; whnf
|apply zl rfl
 . conv => lhs; whnf
 . conv => lhs; whnf
 . first | rfl | assumption
|apply zP rfl
 . conv => lhs; whnf
 . conv => lhs; whnf
 . conv => lhs; whnf; arg 2; whnf
|refine zT (by conv => lhs; whnf) ?_ ?_ <;> intro hb
|refine zK ?_
|refine zH ?_
|refine ⟨_,by conv => lhs; whnf; arg 2; whnf,?_⟩; conv => rhs; whnf
|exact trivial
|intro hg)
 . simp only [e1,e2] at *
   generalize decide (nW a b <= 64) = x at *
   simp_all
 . have hR2 : R = (allIU opB8 a a.length 0 && allIU fragB8 b b.length 0):=by
    simp only [e1,e2] at *
    simp_all
   clear hR hb hg e1 e2
   refine z7 (fun j st => ∃ i,i + j = a.length /\ R = (allIU opB8 a j i && allIU fragB8 b b.length 0) /\ Sub (cx EN Tryz.prog s w he) st (HRoq a b i)) a.length ⟨0,by omega,hR2,Sub.live ⟨rfl,rfl,trivial⟩ ⟨rfl,trivial⟩⟩ ?_
   clear hR2
   rintro j st ⟨i,hij,hR,hs2⟩
   refine z8 hs2 ?_
   clear hs2
   by_cases hi : i < a.length
   . obtain ⟨j,rfl⟩ : ∃ q,j = q + 1:=⟨j - 1,by omega⟩
     have f1 : decide ((i : Int) < (a.length : Nat)) = true:=decide_eq_true (by omega)
     have h1:=zAk ((gD a i).f 1).s
     have h2:=varsB8F_ac ((gD a i).f 2).l
     have h3:=zF2 ((gD a i).f 3).l
     have g1 : decide (((gD a i).f 0).n < 1) = !decide (1 <= ((gD a i).f 0).n):=by
      rw [Bool.eq_iff_iff]
      simp only [decide_eq_true_eq,Bool.not_eq_true',decide_eq_false_iff_not]
      omega
     have g2 : decide (((gD a i).f 0).n > 3) = !decide (((gD a i).f 0).n <= 3):=by
      rw [Bool.eq_iff_iff]
      simp only [decide_eq_true_eq,Bool.not_eq_true',decide_eq_false_iff_not]
      omega
     have g4:=zBP ((gD a i).f 1).s
     have hR' : R = ((decide (1 <= ((gD a i).f 0).n) && decide (((gD a i).f 0).n <= 3)) && (noneS ((gD a i).f 1).s || nameB ((gD a i).f 1).s) && varsB8 ((gD a i).f 2).l && setB8 ((gD a i).f 3).l && allIU opB8 a j (i + 1) && allIU fragB8 b b.length 0):=by
      have hop : opB8 (gD a i) = ((decide (1 <= ((gD a i).f 0).n) && decide (((gD a i).f 0).n <= 3)) && (noneS ((gD a i).f 1).s || nameB ((gD a i).f 1).s) && varsB8 ((gD a i).f 2).l && setB8 ((gD a i).f 3).l):=by
       rw [<- Bool.decide_and]
       unfold opB8 varsB8
       simp only [Bool.and_assoc]
      rw [hR,<- hop]; rfl
     clear hR
     repeat' (first
|apply zq rfl rfl rfl
 . conv => lhs; whnf
 . first | rfl | assumption
 . conv => lhs; whnf
 . first | exact bT1 ‹_› | exact bT2 ‹_› | rfl
|apply zu rfl rfl rfl
 . conv => lhs; whnf
 . first | rfl | assumption
 . conv => lhs; whnf
 . first | exact bF1 ‹_› | exact bF2 ‹_› | rfl
|apply zW
 . conv => lhs; whnf
 . assumption
|refine zA ?_
|refine zI ?_
|refine zb ?_
|refine zU ?_
|apply aw_1
 conv => whnf
 refine ⟨?_,trivial⟩
|apply zg rfl rfl
 . conv => lhs; whnf
 . conv => lhs; whnf
 . first | exact bT1 ‹_› | exact bT2 ‹_›
|apply ze rfl rfl
 . conv => lhs; whnf
 . conv => lhs; whnf
 . first | exact bF1 ‹_› | exact bF2 ‹_›
|apply s_1
 conv => whnf; arg 1; arg 4; arg 3; whnf
 refine ⟨?_,?_⟩
|apply zr rfl rfl rfl
 . conv => lhs; whnf
 . conv => lhs; whnf; arg 1; whnf
 . conv => lhs; whnf; arg 1; whnf
 . exact ⟨by kernel_rfl,by kernel_rfl⟩
 . rfl
|apply zM rfl
 . conv => lhs; whnf
 . conv => lhs; whnf
 . first | rfl | assumption
 . conv => lhs; whnf; arg 2; whnf
|apply zR rfl
 . conv => lhs; whnf
 . conv => lhs; whnf
 . first | rfl | assumption
 . conv => lhs; whnf
 . first | exact h1 | exact h2 | exact h3
|apply zl rfl
 . conv => lhs; whnf
 . conv => lhs; whnf
 . first | rfl | assumption
|apply zP rfl
 . conv => lhs; whnf
 . conv => lhs; whnf
 . conv => lhs; whnf; arg 2; whnf
|refine zT (by conv => lhs; whnf) ?_ ?_ <;> intro hb
|refine zK ?_
|refine zC ?_
|refine zL ?_
|refine zH ?_
|refine ⟨_,by conv => lhs; whnf; arg 2; whnf,?_⟩; conv => rhs; whnf
|exact trivial
|intro hg)
     all_goals first
      | exact zo (by omega)
      | exact zBM hi
      | refine congrArg (fun b => V.c (.bool b)) ?_
      | refine zh (j':=j) (by omega) ⟨i + 1,by omega,?_,Sub.live ⟨rfl,rfl,trivial⟩ ⟨rfl,trivial⟩⟩
     all_goals
      clear h1 h2 h3
      simp only [Int.toNat_natCast,Nat.reduceAdd,g1,g2,g4] at *
      clear g1 g2 g4
      generalize setB8 ((gD a i).f 3).l = a1 at *
      generalize varsB8 ((gD a i).f 2).l = a2 at *
      generalize noneS ((gD a i).f 1).s = a4 at *
      generalize nameB ((gD a i).f 1).s = a5 at *
      generalize decide (((gD a i).f 0).n <= 3) = a6 at *
      generalize decide (1 <= ((gD a i).f 0).n) = a7 at *
      generalize allIU fragB8 b b.length 0 = a8 at *
      generalize allIU opB8 a j (i + 1) = a9 at *
      clear f1 hi hij he
      simp_all
   . obtain rfl : j = 0:=by omega
     have f1 : decide ((i : Int) < (a.length : Nat)) = false:=decide_eq_false (by omega)
     have hR2 : R = allIU fragB8 b b.length 0:=by rw [hR,allIU,Bool.true_and]
     clear hR
     repeat' (first
|apply zS
 . conv => lhs; whnf
 . assumption
|refine zA ?_
|refine zI ?_
|refine zb ?_
|apply aw_1
 conv => whnf
 refine ⟨?_,trivial⟩
|apply s_1
 conv => whnf; arg 1; arg 4; arg 3; whnf
 refine ⟨?_,?_⟩
|refine zG ?_
|refine zB rfl ?_
|refine zD ?_
|exact trivial)
     refine z7 (fun j st => ∃ i,i + j = b.length /\ R = allIU fragB8 b j i /\ Sub (cx EN Tryz.prog s w he) st (HRfq a b i)) b.length ⟨0,by omega,hR2,Sub.live ⟨rfl,rfl,trivial⟩ ⟨rfl,trivial⟩⟩ ?_
     clear hR2
     rintro j2 st2 ⟨i2,hij2,hR,hs2⟩
     refine z8 hs2 ?_
     clear hs2
     by_cases hi2 : i2 < b.length
     . obtain ⟨j2,rfl⟩ : ∃ q,j2 = q + 1:=⟨j2 - 1,by omega⟩
       have f2 : decide ((i2 : Int) < (b.length : Nat)) = true:=decide_eq_true (by omega)
       have h1:=zD2 ((gD b i2).f 0).s
       have h2:=zAk ((gD b i2).f 1).s
       have h3:=zF2 ((gD b i2).f 2).l
       have hR' : R = (titleR ((gD b i2).f 0).s && nameB ((gD b i2).f 1).s && setB8 ((gD b i2).f 2).l && allIU fragB8 b j2 (i2 + 1)):=hR
       clear hR
       repeat' (first
|apply zW
 . conv => lhs; whnf
 . assumption
|refine zA ?_
|refine zI ?_
|refine zb ?_
|refine zU ?_
|apply aw_1
 conv => whnf
 refine ⟨?_,trivial⟩
|apply zg rfl rfl
 . conv => lhs; whnf
 . conv => lhs; whnf
 . first | exact bT1 ‹_› | exact bT2 ‹_›
|apply ze rfl rfl
 . conv => lhs; whnf
 . conv => lhs; whnf
 . first | exact bF1 ‹_› | exact bF2 ‹_›
|apply s_1
 conv => whnf; arg 1; arg 4; arg 3; whnf
 refine ⟨?_,?_⟩
|apply zd rfl
 . conv => lhs; whnf
 . conv => lhs; whnf
 . first | exact h1 | exact h2 | exact h3
|apply zr rfl rfl rfl
 . conv => lhs; whnf
 . conv => lhs; whnf; arg 1; whnf
 . conv => lhs; whnf; arg 1; whnf
 . exact ⟨by kernel_rfl,by kernel_rfl⟩
 . rfl
|apply zM rfl
 . conv => lhs; whnf
 . conv => lhs; whnf
 . first | rfl | assumption
 . conv => lhs; whnf; arg 2; whnf
|apply zR rfl
 . conv => lhs; whnf
 . conv => lhs; whnf
 . first | rfl | assumption
 . conv => lhs; whnf
 . first | exact h1 | exact h2 | exact h3
|apply zl rfl
 . conv => lhs; whnf
 . conv => lhs; whnf
 . first | rfl | assumption
|apply zP rfl
 . conv => lhs; whnf
 . conv => lhs; whnf
 . conv => lhs; whnf; arg 2; whnf
|refine zT (by conv => lhs; whnf) ?_ ?_ <;> intro hb
|refine zK ?_
|refine zC ?_
|refine zL ?_
|refine zH ?_
|refine ⟨_,by conv => lhs; whnf; arg 2; whnf,?_⟩; conv => rhs; whnf
|exact trivial
|intro hg)
       all_goals first
        | exact zo (by omega)
        | exact zBM hi2
        | refine congrArg (fun b => V.c (.bool b)) ?_
        | refine zh (j':=j2) (by omega) ⟨i2 + 1,by omega,?_,Sub.live ⟨rfl,rfl,trivial⟩ ⟨rfl,trivial⟩⟩
       all_goals
        clear h1 h2 h3
        try simp only [Int.toNat_natCast,Nat.reduceAdd] at *
        generalize titleR ((gD b i2).f 0).s = a1 at *
        generalize nameB ((gD b i2).f 1).s = a2 at *
        generalize setB8 ((gD b i2).f 2).l = a4 at *
        generalize allIU fragB8 b j2 (i2 + 1) = a8 at *
        clear f2 hi2 hij2 he hi hij f1
        simp_all
     . obtain rfl : j2 = 0:=by omega
       have f2 : decide ((i2 : Int) < (b.length : Nat)) = false:=decide_eq_false (by omega)
       repeat' (first
|apply zS
 . conv => lhs; whnf
 . assumption
|refine zA ?_
|refine zI ?_
|refine zb ?_
|apply aw_1
 conv => whnf
 refine ⟨?_,trivial⟩
|apply s_1
 conv => whnf; arg 1; arg 4; arg 3; whnf
 refine ⟨?_,?_⟩
|refine zG ?_
|refine zB rfl ?_
|refine zD ?_
|refine zH ?_
|refine ⟨_,by conv => lhs; whnf; arg 2; whnf,?_⟩; conv => rhs; whnf
|exact trivial)
       rw [hR]; rfl
 . simp only [e1,e2] at *
   simp_all
   try (intros; omega)
end Go.Proofs.YtdlnnlglmifceaaGreatDoor
namespace Go.Proofs.YtdlnnlglmifceaaGreatDoor
open Go.RowKit
set_option linter.unusedSectionVars false
section
variable {X : Cx} {nn : Nat} {st : Vst nn} {ops : Array Oper} {o : Oper} {l : List Oper} {KK : Vst nn -> Prop} {d : Option Tmp}
theorem opOk_subW {K : Vst nn -> Prop} {k : IntKind} {a b : Int} {t : TypeId} {x y : Operand} {q : TypeId} (ho : o.op = .binOp .sub t x y q) (hx : ev st x = .c (.int k a)) (hy : ev st y = .c (.int k b)) (hK : K (st.put o.dst (.c (.int k (k.wrap (a - b)))))) : OpOk X o st K:=by
 intro s w a' hI N Q hP hN
 have r1:=hI.ev x
 have r2:=hI.ev y
 rw [hx,rel] at r1
 rw [hy,rel] at r2
 have h1 : (execOp a'.eval o).run X.P w = .ok (.value (.int k (k.wrap (a - b)))) w:=by
  simp [execOp,ho,eqGuard,binOp,Op.intArith,r1.1,r2.1]
 unfold Oper.wp
 rw [h1,Oper.upon_value]
 refine hN _ _ _ _ (hI.put o.dst ?_) hK
 rw [rel]
 exact ⟨rfl,zB2.2 (wrap_wf k _)⟩
theorem s_subW {k2 : IntKind} {a b : Int} {t : TypeId} {x y : Operand} {q : TypeId} (hg : o.guard = none) (ho : o.op = .binOp .sub t x y q) (hd : o.dst = d) (hx : ev st x = .c (.int k2 a)) (hy : ev st y = .c (.int k2 b)) (hK : AWo X ops l (st.put d (.c (.int k2 (k2.wrap (a - b))))) KK) : AWo X ops (o :: l) st KK:=
 zAO hg (opOk_subW ho hx hy (by rw [hd]; exact hK))
end
def wB8 (n : Int) : Int:=IntKind.i64.wrap n
def stepB8 (m : Int) (g : Nat -> Int -> Int) : Nat -> Nat -> Int -> Int
 | 0,_,n => n
 | j + 1,i,n => if n <= m then stepB8 m g j (i + 1) (g i n) else n
theorem zCD {m : Int} {g : Nat -> Int -> Int} {j i : Nat} {n R : Int} (h : stepB8 m g (j + 1) i n = R) (hn : n <= m) : stepB8 m g j (i + 1) (g i n) = R:=by
 rw [<- h]; conv => rhs; unfold stepB8
 rw [if_pos hn]
theorem zA3 {m : Int} {g : Nat -> Int -> Int} {j i : Nat} {n R : Int} (h : stepB8 m g j i n = R) (hn : ¬ n <= m \/ j = 0) : n = R:=by
 cases j with
 | zero => exact h
 | succ j =>
   unfold stepB8 at h
   rwa [if_neg (hn.resolve_right (by omega))] at h
def sizeB8 (d : D) : Int:=zD5 (bulkD d) d
def argsWt (m : Int) (l : List D) (n : Int) : Int:=stepB8 m (fun q n => wB8 (n + sizeB8 ((gD l q).f 1))) l.length 0 n
def weighB8 : Nat -> List D -> Int -> Int
 | 0,_,_ => 0
 | k + 1,l,m => stepB8 m (fun i n => (fun r => wB8 (r + weighB8 k ((gD l i).f 6).l (wB8 (m - r)))) (argsWt m ((gD l i).f 4).l (wB8 (wB8 (wB8 (n + 1) + (((gD l i).f 4).l.length : Int)) + (((gD l i).f 5).l.length : Int))))) l.length 0 0
def largeB8 (a b : List D) : Int:=
 stepB8 600 (fun i n => wB8 (n + weighB8 (bulkL ((gD b i).f 2).l + 1) ((gD b i).f 2).l 600)) b.length 0 (stepB8 600 (fun i n => wB8 (wB8 (n + (((gD a i).f 2).l.length : Int)) + weighB8 (bulkL ((gD a i).f 3).l + 1) ((gD a i).f 3).l 600)) a.length 0 (wB8 ((a.length : Int) + (b.length : Int))))
theorem wq1 {i : Nat} (h : i < 9223372036854775807) : V.c (.int .i64 (IntKind.i64.wrap ((i : Int) + 1))) = V.c (.int .i64 ((i + 1 : Nat) : Int)):=by
 rw [wrap_id ⟨by omega,by omega⟩]; rfl
theorem len_sel {n : Nat} {d : D} (h : LenT Tryz.prog (n + 2) 57 d) : (d.f 4).l.length <= maxLen:=
 (LenT.lst (t:=54) (e:=68) (by kernel_rfl) (LenT.fld 4 (fs:=Tryz.prog.fieldsOf 57) (f:=(Tryz.prog.fieldsOf 57)[4]!) (by kernel_rfl) (by kernel_rfl) h)).1
attribute [local irreducible] wpList Calls Code.wp AW AWo OpOk seqK zAP zAR loopK endK AC zy Yld Sub
attribute [local irreducible] ACB ACX ACE absLexG YldG
theorem sizeB8_ac (d : D) : AC EN Tryz.prog 39 [.agg (cellsV Tryz.prog 12 62 d)] (.c (.int .i64 (sizeB8 d))):=zD6 _ d (zDS (bulkD d) d (Nat.le_refl _))
noncomputable def HwQ8 (l : List D) (m n : Int) (i : Nat) : Vst 74:=stS 74 [(0,.sl 57 l),(1,.c (.int .i64 m)),(5,.c (.int .i64 n)),(6,.c (.int .i64 (i : Int)))] []
noncomputable def HwR8 (l : List D) (m n : Int) (i k : Nat) : Vst 74:=stS 74 [(0,.sl 57 l),(1,.c (.int .i64 m)),(5,.c (.int .i64 n)),(6,.c (.int .i64 (i : Int))),(7,.c (.int .i64 (k : Int)))] []
theorem zEo : ∀ (k : Nat) (l : List D) (m : Int),bulkL l < k -> AC EN Tryz.prog 14 [.sl 57 l,.c (.int .i64 m)] (.c (.int .i64 (weighB8 k l m)))
 | 0,_,_,h => by omega
 | k + 1,l,m,h => by
   refine zEW 2 fun hL2 => ?_
   have hl : l.length <= 9223372036854775807:=hL2.1
   have hla : ∀ i,i < l.length -> ((gD l i).f 4).l.length <= 9223372036854775807:=fun i hi => len_sel (hL2.2 (by decide +kernel) i hi)
   clear hL2
   have ih:=fun i (hi : i < l.length) m' => zEo k ((gD l i).f 6).l m' (by have:=zA9 hi; have:=(sel_b (B:=bulkD (gD l i)) (d:=gD l i) (Nat.le_refl _)).l6; omega)
   obtain ⟨R,hR⟩ : ∃ R,weighB8 (k + 1) l m = R:=⟨_,rfl⟩
   rw [hR]
   unfold weighB8 at hR
   refine zX 74 Tryz.func14 rfl rfl rfl rfl ?_
   intro s w he
   repeat' (first
|refine zA ?_
|refine zI ?_
|refine zb ?_
|apply aw_1
 conv => whnf
 refine ⟨?_,trivial⟩
|apply s_1
 conv => whnf; arg 1; arg 4; arg 3; whnf
 refine ⟨?_,?_⟩
|exact trivial)
   refine z7 (fun j st => ∃ i n,i + j = l.length /\ stepB8 m (fun i n => (fun r => wB8 (r + weighB8 k ((gD l i).f 6).l (wB8 (m - r)))) (argsWt m ((gD l i).f 4).l (wB8 (wB8 (wB8 (n + 1) + (((gD l i).f 4).l.length : Int)) + (((gD l i).f 5).l.length : Int))))) j i n = R /\ Sub (cx EN Tryz.prog s w he) st (HwQ8 l m n i)) l.length ⟨0,_,by omega,hR,Sub.live ⟨rfl,rfl,rfl,rfl,trivial⟩ trivial⟩ ?_
   clear hR
   rintro j st ⟨i,n,hij,hR,hs2⟩
   refine z8 hs2 ?_
   clear hs2
   have h3 : (i < l.length /\ n <= m) \/ (i < l.length /\ ¬ n <= m) \/ ¬ i < l.length:=by omega
   rcases h3 with ⟨hi,hn⟩ | ⟨hi,hn⟩ | hi
   . obtain ⟨j,rfl⟩ : ∃ q,j = q + 1:=⟨j - 1,by omega⟩
     have f1 : decide ((i : Int) < (l.length : Nat)) = true:=decide_eq_true (by omega)
     have f2 : decide (n <= m) = true:=decide_eq_true hn
     have K1 : (decide ((i : Int) < (l.length : Nat)) == true) = false -> False:=fun h => by rw [f1] at h; cases h
     have hR:=zCD hR hn
     obtain ⟨R1,hR1⟩ : ∃ R,argsWt m ((gD l i).f 4).l (wB8 (wB8 (wB8 (n + 1) + (((gD l i).f 4).l.length : Int)) + (((gD l i).f 5).l.length : Int))) = R:=⟨_,rfl⟩
     try dsimp only at hR
     rw [hR1] at hR
     unfold argsWt at hR1
     have ha:=hla i hi
     have ih2:=ih i hi
     clear ih hla
     repeat' (first
|apply y_addW rfl rfl rfl
 . conv => lhs; whnf
 . conv => lhs; whnf
|apply zW
 . conv => lhs; whnf
 . assumption
|exact (K1 ‹_›).elim
|refine zA ?_
|refine zI ?_
|refine zb ?_
|apply aw_1
 conv => whnf
 refine ⟨?_,trivial⟩
|apply zg rfl rfl
 . conv => lhs; whnf
 . conv => lhs; whnf
 . first | exact bT1 ‹_› | exact bT2 ‹_›
|apply s_1
 conv => whnf; arg 1; arg 4; arg 3; whnf
 refine ⟨?_,?_⟩
|apply zM rfl
 . conv => lhs; whnf
 . conv => lhs; whnf
 . first | rfl | assumption
 . conv => lhs; whnf; arg 2; whnf
|apply zP rfl
 . conv => lhs; whnf
 . conv => lhs; whnf
 . conv => lhs; whnf; arg 2; whnf
|apply zAm (by kernel_rfl) (by kernel_rfl)
|apply zB6
|apply zB5 rfl
 . conv => lhs; whnf
 . conv => lhs; whnf; arg 2; whnf
|exact zAG
|exact zAK
|exact (1000000 : Nat)
|exact trivial
|intro hg)
     all_goals first
      | exact zo (by omega)
      | exact zBM hi
      | skip
     clear K1 f2
     refine z7 (fun jj st => ∃ q p,q + jj = ((gD l i).f 4).l.length /\ stepB8 m (fun q n => wB8 (n + sizeB8 ((gD ((gD l i).f 4).l q).f 1))) jj q p = R1 /\ Sub (cx EN Tryz.prog s w he) st (HwR8 l m p i q)) ((gD l i).f 4).l.length ⟨0,_,by omega,hR1,Sub.live ⟨rfl,rfl,rfl,rfl,rfl,trivial⟩ trivial⟩ ?_
     clear hR1
     rintro jj st2 ⟨q,p,hkj,hR1,hs3⟩
     refine z8 hs3 ?_
     clear hs3
     have h4 : (q < ((gD l i).f 4).l.length /\ p <= m) \/ (q < ((gD l i).f 4).l.length /\ ¬ p <= m) \/ ¬ q < ((gD l i).f 4).l.length:=by omega
     rcases h4 with ⟨hk,hm⟩ | ⟨hk,hm⟩ | hk
     . obtain ⟨jj,rfl⟩ : ∃ q,jj = q + 1:=⟨jj - 1,by omega⟩
       have g1 : decide ((q : Int) < (((gD l i).f 4).l.length : Nat)) = true:=decide_eq_true (by omega)
       have g2 : decide (p <= m) = true:=decide_eq_true hm
       have K2 : (decide ((q : Int) < (((gD l i).f 4).l.length : Nat)) == true) = false -> False:=fun h => by rw [g1] at h; cases h
       have hw:=sizeB8_ac ((gD ((gD l i).f 4).l q).f 1)
       repeat' (first
|apply zBo rfl rfl rfl
 . conv => lhs; whnf
 . conv => lhs; whnf
|apply zW
 . conv => lhs; whnf
 . assumption
|exact (K2 ‹_›).elim
|refine zA ?_
|refine zI ?_
|refine zb ?_
|refine zU ?_
|apply aw_1
 conv => whnf
 refine ⟨?_,trivial⟩
|apply zg rfl rfl
 . conv => lhs; whnf
 . conv => lhs; whnf
 . first | exact bT1 ‹_› | exact bT2 ‹_›
|apply s_1
 conv => whnf; arg 1; arg 4; arg 3; whnf
 refine ⟨?_,?_⟩
|apply zd rfl
 . conv => lhs; whnf
 . conv => lhs; whnf
 . first | exact hw
|apply zM rfl
 . conv => lhs; whnf
 . conv => lhs; whnf
 . first | rfl | assumption
 . conv => lhs; whnf; arg 2; whnf
|apply zP rfl
 . conv => lhs; whnf
 . conv => lhs; whnf
 . conv => lhs; whnf; arg 2; whnf
|exact trivial
|intro hg)
       all_goals first
        | exact zo (by omega)
        | exact zBM hi
        | exact zBM hk
        | exact zh (j':=jj) (by omega) ⟨q + 1,_,by omega,zCD hR1 hm,Sub.live ⟨rfl,rfl,rfl,rfl,wq1 (by omega),trivial⟩ trivial⟩
        | skip
     all_goals
      have hE : p = R1:=zA3 hR1 (by first | exact .inl hm | exact .inr (by omega))
      subst hE
      clear hR1
      have ih3:=ih2 (wB8 (m - p))
      unfold wB8 at ih3
      clear ih2
     . have g1 : decide ((q : Int) < (((gD l i).f 4).l.length : Nat)) = true:=decide_eq_true (by omega)
       have g2 : decide (p <= m) = false:=decide_eq_false hm
       have K2 : (decide ((q : Int) < (((gD l i).f 4).l.length : Nat)) == true) = false -> False:=fun h => by rw [g1] at h; cases h
       repeat' (first
|apply s_subW rfl rfl rfl
 . conv => lhs; whnf
 . conv => lhs; whnf
|apply zBo rfl rfl rfl
 . conv => lhs; whnf
 . conv => lhs; whnf
|apply zS
 . conv => lhs; whnf
 . assumption
|exact (K2 ‹_›).elim
|refine zA ?_
|refine zI ?_
|refine zb ?_
|refine zU ?_
|apply aw_1
 conv => whnf
 refine ⟨?_,trivial⟩
|apply zg rfl rfl
 . conv => lhs; whnf
 . conv => lhs; whnf
 . first | exact bT1 ‹_› | exact bT2 ‹_›
|apply s_1
 conv => whnf; arg 1; arg 4; arg 3; whnf
 refine ⟨?_,?_⟩
|apply zd rfl
 . conv => lhs; whnf
 . conv => lhs; whnf
 . first | exact ih3
|apply zM rfl
 . conv => lhs; whnf
 . conv => lhs; whnf
 . first | rfl | assumption
 . conv => lhs; whnf; arg 2; whnf
|apply zP rfl
 . conv => lhs; whnf
 . conv => lhs; whnf
 . conv => lhs; whnf; arg 2; whnf
|refine zG ?_
|refine zB rfl ?_
|refine zD ?_
|exact trivial
|intro hg)
       all_goals first
        | exact zo (by omega)
        | exact zBM hi
        | exact zh (j':=j) (by omega) ⟨i + 1,_,by omega,hR,Sub.live ⟨rfl,rfl,rfl,wq1 (by omega),trivial⟩ trivial⟩
        | skip
     . have g1 : decide ((q : Int) < (((gD l i).f 4).l.length : Nat)) = false:=decide_eq_false (by omega)
       have K2 : (decide ((q : Int) < (((gD l i).f 4).l.length : Nat)) == true) = true -> False:=fun h => by rw [g1] at h; cases h
       repeat' (first
|apply s_subW rfl rfl rfl
 . conv => lhs; whnf
 . conv => lhs; whnf
|apply zBo rfl rfl rfl
 . conv => lhs; whnf
 . conv => lhs; whnf
|exact (K2 ‹_›).elim
|refine zA ?_
|refine zI ?_
|refine zb ?_
|refine zU ?_
|apply aw_1
 conv => whnf
 refine ⟨?_,trivial⟩
|apply ze rfl rfl
 . conv => lhs; whnf
 . conv => lhs; whnf
 . first | exact bF1 ‹_› | exact bF2 ‹_›
|apply s_1
 conv => whnf; arg 1; arg 4; arg 3; whnf
 refine ⟨?_,?_⟩
|apply zd rfl
 . conv => lhs; whnf
 . conv => lhs; whnf
 . first | exact ih3
|apply zl rfl
 . conv => lhs; whnf
 . conv => lhs; whnf
 . first | rfl | assumption
|apply zP rfl
 . conv => lhs; whnf
 . conv => lhs; whnf
 . conv => lhs; whnf; arg 2; whnf
|refine zG ?_
|refine zB rfl ?_
|refine zD ?_
|exact trivial
|intro hg)
       all_goals first
        | exact zo (by omega)
        | exact zBM hi
        | exact zh (j':=j) (by omega) ⟨i + 1,_,by omega,hR,Sub.live ⟨rfl,rfl,rfl,wq1 (by omega),trivial⟩ trivial⟩
        | skip
   . have f1 : decide ((i : Int) < (l.length : Nat)) = true:=decide_eq_true (by omega)
     have f2 : decide (n <= m) = false:=decide_eq_false hn
     have K1 : (decide ((i : Int) < (l.length : Nat)) == true) = false -> False:=fun h => by rw [f1] at h; cases h
     repeat' (first
|apply zS
 . conv => lhs; whnf
 . assumption
|exact (K1 ‹_›).elim
|refine zA ?_
|refine zI ?_
|refine zb ?_
|apply aw_1
 conv => whnf
 refine ⟨?_,trivial⟩
|apply zg rfl rfl
 . conv => lhs; whnf
 . conv => lhs; whnf
 . first | exact bT1 ‹_› | exact bT2 ‹_›
|apply s_1
 conv => whnf; arg 1; arg 4; arg 3; whnf
 refine ⟨?_,?_⟩
|apply zM rfl
 . conv => lhs; whnf
 . conv => lhs; whnf
 . first | rfl | assumption
 . conv => lhs; whnf; arg 2; whnf
|apply zP rfl
 . conv => lhs; whnf
 . conv => lhs; whnf
 . conv => lhs; whnf; arg 2; whnf
|refine zG ?_
|refine zB rfl ?_
|refine zD ?_
|refine zH ?_
|refine ⟨_,by conv => lhs; whnf; arg 2; whnf,?_⟩; conv => rhs; whnf
|exact trivial
|intro hg)
     all_goals first
      | (rw [zA3 hR (.inl hn)]; done)
      | skip
   . have f1 : decide ((i : Int) < (l.length : Nat)) = false:=decide_eq_false (by omega)
     have K1 : (decide ((i : Int) < (l.length : Nat)) == true) = true -> False:=fun h => by rw [f1] at h; cases h
     repeat' (first
|exact (K1 ‹_›).elim
|refine zA ?_
|refine zI ?_
|refine zb ?_
|apply aw_1
 conv => whnf
 refine ⟨?_,trivial⟩
|apply ze rfl rfl
 . conv => lhs; whnf
 . conv => lhs; whnf
 . first | exact bF1 ‹_› | exact bF2 ‹_›
|apply s_1
 conv => whnf; arg 1; arg 4; arg 3; whnf
 refine ⟨?_,?_⟩
|apply zl rfl
 . conv => lhs; whnf
 . conv => lhs; whnf
 . first | rfl | assumption
|apply zP rfl
 . conv => lhs; whnf
 . conv => lhs; whnf
 . conv => lhs; whnf; arg 2; whnf
|refine zG ?_
|refine zB rfl ?_
|refine zD ?_
|refine zH ?_
|refine ⟨_,by conv => lhs; whnf; arg 2; whnf,?_⟩; conv => rhs; whnf
|exact trivial
|intro hg)
     all_goals first
      | (rw [zA3 hR (.inr (by omega))]; done)
      | skip
noncomputable def HlQ8 (a b : List D) (n : Int) (i : Nat) : Vst 63:=stS 63 [(1,.bx 1 0),(3,.c (.int .i64 n)),(4,.c (.int .i64 (i : Int)))] [(1,.box 25 [.sl 47 a,.sl 50 b])]
noncomputable def HlR8 (a b : List D) (n : Int) (i : Nat) : Vst 63:=stS 63 [(1,.bx 1 0),(3,.c (.int .i64 n)),(5,.c (.int .i64 (i : Int)))] [(1,.box 25 [.sl 47 a,.sl 50 b])]
theorem zDw (l : List D) (m : Int) : AC EN Tryz.prog 14 [.sl 57 l,.c (.int .i64 m)] (.c (.int .i64 (weighB8 (bulkL l + 1) l m))):=zEo _ l m (Nat.lt_succ_self _)
theorem largeB8_ac (a b : List D) : AC EN Tryz.prog 5 [.agg [.sl 47 a,.sl 50 b]] (.c (.bool (decide (largeB8 a b > 600)))):=by
 refine ac_q2 fun hla hlb => ?_
 have hla : a.length <= 9223372036854775807:=hla
 have hlb : b.length <= 9223372036854775807:=hlb
 obtain ⟨R,hR⟩ : ∃ R,largeB8 a b = R:=⟨_,rfl⟩
 rw [hR]
 unfold largeB8 at hR
 obtain ⟨R1,hR1⟩ : ∃ R,stepB8 600 (fun i n => wB8 (wB8 (n + (((gD a i).f 2).l.length : Int)) + weighB8 (bulkL ((gD a i).f 3).l + 1) ((gD a i).f 3).l 600)) a.length 0 (wB8 ((a.length : Int) + (b.length : Int))) = R:=⟨_,rfl⟩
 rw [hR1] at hR
 refine zX 63 Tryz.func5 rfl rfl rfl rfl ?_
 intro s w he
 repeat' (first
|apply zBo rfl rfl rfl
 . conv => lhs; whnf
 . conv => lhs; whnf
|refine zA ?_
|refine zI ?_
|refine zb ?_
|apply aw_1
 conv => whnf
 refine ⟨?_,trivial⟩
|apply s_1
 conv => whnf; arg 1; arg 4; arg 3; whnf
 refine ⟨?_,?_⟩
|apply zAC rfl rfl rfl rfl
 . conv => lhs; whnf; arg 1; whnf
 . rfl
|exact trivial)
 refine z7 (fun j st => ∃ i n,i + j = a.length /\ stepB8 600 (fun i n => wB8 (wB8 (n + (((gD a i).f 2).l.length : Int)) + weighB8 (bulkL ((gD a i).f 3).l + 1) ((gD a i).f 3).l 600)) j i n = R1 /\ Sub (cx EN Tryz.prog s w he) st (HlQ8 a b n i)) a.length ⟨0,_,by omega,hR1,Sub.live ⟨rfl,rfl,rfl,trivial⟩ ⟨rfl,trivial⟩⟩ ?_
 clear hR1
 rintro j st ⟨i,n,hij,hR1,hs2⟩
 refine z8 hs2 ?_
 clear hs2
 have h3 : (i < a.length /\ n <= 600) \/ (i < a.length /\ ¬ n <= 600) \/ ¬ i < a.length:=by omega
 rcases h3 with ⟨hi,hn⟩ | ⟨hi,hn⟩ | hi
 . obtain ⟨j,rfl⟩ : ∃ q,j = q + 1:=⟨j - 1,by omega⟩
   have f1 : decide ((i : Int) < (a.length : Nat)) = true:=decide_eq_true (by omega)
   have f2 : decide (n <= 600) = true:=decide_eq_true hn
   have K1 : (decide ((i : Int) < (a.length : Nat)) == true) = false -> False:=fun h => by rw [f1] at h; cases h
   have hw:=zDw ((gD a i).f 3).l 600
   repeat' (first
|apply zBo rfl rfl rfl
 . conv => lhs; whnf
 . conv => lhs; whnf
|apply y_addW rfl rfl rfl
 . conv => lhs; whnf
 . conv => lhs; whnf
|apply zW
 . conv => lhs; whnf
 . assumption
|exact (K1 ‹_›).elim
|refine zA ?_
|refine zI ?_
|refine zb ?_
|refine zU ?_
|apply aw_1
 conv => whnf
 refine ⟨?_,trivial⟩
|apply zg rfl rfl
 . conv => lhs; whnf
 . conv => lhs; whnf
 . first | exact bT1 ‹_› | exact bT2 ‹_›
|apply s_1
 conv => whnf; arg 1; arg 4; arg 3; whnf
 refine ⟨?_,?_⟩
|apply zM rfl
 . conv => lhs; whnf
 . conv => lhs; whnf
 . first | rfl | assumption
 . conv => lhs; whnf; arg 2; whnf
|apply zP rfl
 . conv => lhs; whnf
 . conv => lhs; whnf
 . conv => lhs; whnf; arg 2; whnf
|apply zAm (by kernel_rfl) (by kernel_rfl)
|apply zB6
|apply zB5 rfl
 . conv => lhs; whnf
 . conv => lhs; whnf; arg 2; whnf
|apply zCp rfl
 . conv => lhs; whnf
 . conv => lhs; whnf
 . first | exact hw
|exact zAG
|exact zAK
|exact (1000000 : Nat)
|exact trivial
|intro hg)
   all_goals first
    | exact zo (by omega)
    | exact zBM hi
    | exact zh (j':=j) (by omega) ⟨i + 1,_,by omega,zCD hR1 hn,Sub.live ⟨rfl,rfl,wq1 (by omega),trivial⟩ ⟨rfl,trivial⟩⟩
    | skip
 all_goals
  have hE : n = R1:=zA3 hR1 (by first | exact .inl hn | exact .inr (by omega))
  subst hE
  clear hR1
 . have f1 : decide ((i : Int) < (a.length : Nat)) = true:=decide_eq_true (by omega)
   have f2 : decide (n <= 600) = false:=decide_eq_false hn
   have K1 : (decide ((i : Int) < (a.length : Nat)) == true) = false -> False:=fun h => by rw [f1] at h; cases h
   repeat' (first
|apply zS
 . conv => lhs; whnf
 . assumption
|exact (K1 ‹_›).elim
|refine zA ?_
|refine zI ?_
|refine zb ?_
|apply aw_1
 conv => whnf
 refine ⟨?_,trivial⟩
|apply zg rfl rfl
 . conv => lhs; whnf
 . conv => lhs; whnf
 . first | exact bT1 ‹_› | exact bT2 ‹_›
|apply s_1
 conv => whnf; arg 1; arg 4; arg 3; whnf
 refine ⟨?_,?_⟩
|apply zM rfl
 . conv => lhs; whnf
 . conv => lhs; whnf
 . first | rfl | assumption
 . conv => lhs; whnf; arg 2; whnf
|apply zP rfl
 . conv => lhs; whnf
 . conv => lhs; whnf
 . conv => lhs; whnf; arg 2; whnf
|refine zG ?_
|refine zB rfl ?_
|refine zD ?_
|exact trivial
|intro hg)
   clear K1 f1 f2
   refine z7 (fun j st => ∃ i p,i + j = b.length /\ stepB8 600 (fun i n => wB8 (n + weighB8 (bulkL ((gD b i).f 2).l + 1) ((gD b i).f 2).l 600)) j i p = R /\ Sub (cx EN Tryz.prog s w he) st (HlR8 a b p i)) b.length ⟨0,_,by omega,hR,Sub.live ⟨rfl,rfl,rfl,trivial⟩ ⟨rfl,trivial⟩⟩ ?_
   clear hR
   rintro j2 st2 ⟨i2,p,hij2,hR,hs3⟩
   refine z8 hs3 ?_
   clear hs3
   have h4 : (i2 < b.length /\ p <= 600) \/ (i2 < b.length /\ ¬ p <= 600) \/ ¬ i2 < b.length:=by omega
   rcases h4 with ⟨hi2,hm⟩ | ⟨hi2,hm⟩ | hi2
   . obtain ⟨j2,rfl⟩ : ∃ q,j2 = q + 1:=⟨j2 - 1,by omega⟩
     have g1 : decide ((i2 : Int) < (b.length : Nat)) = true:=decide_eq_true (by omega)
     have g2 : decide (p <= 600) = true:=decide_eq_true hm
     have K2 : (decide ((i2 : Int) < (b.length : Nat)) == true) = false -> False:=fun h => by rw [g1] at h; cases h
     have hw:=zDw ((gD b i2).f 2).l 600
     repeat' (first
|apply zBo rfl rfl rfl
 . conv => lhs; whnf
 . conv => lhs; whnf
|apply zW
 . conv => lhs; whnf
 . assumption
|exact (K2 ‹_›).elim
|refine zA ?_
|refine zI ?_
|refine zb ?_
|refine zU ?_
|apply aw_1
 conv => whnf
 refine ⟨?_,trivial⟩
|apply zg rfl rfl
 . conv => lhs; whnf
 . conv => lhs; whnf
 . first | exact bT1 ‹_› | exact bT2 ‹_›
|apply s_1
 conv => whnf; arg 1; arg 4; arg 3; whnf
 refine ⟨?_,?_⟩
|apply zd rfl
 . conv => lhs; whnf
 . conv => lhs; whnf
 . first | exact hw
|apply zM rfl
 . conv => lhs; whnf
 . conv => lhs; whnf
 . first | rfl | assumption
 . conv => lhs; whnf; arg 2; whnf
|apply zP rfl
 . conv => lhs; whnf
 . conv => lhs; whnf
 . conv => lhs; whnf; arg 2; whnf
|exact trivial
|intro hg)
     all_goals first
      | exact zo (by omega)
      | exact zBM hi2
      | exact zh (j':=j2) (by omega) ⟨i2 + 1,_,by omega,zCD hR hm,Sub.live ⟨rfl,rfl,wq1 (by omega),trivial⟩ ⟨rfl,trivial⟩⟩
      | skip
   . have g1 : decide ((i2 : Int) < (b.length : Nat)) = true:=decide_eq_true (by omega)
     have g2 : decide (p <= 600) = false:=decide_eq_false hm
     have K2 : (decide ((i2 : Int) < (b.length : Nat)) == true) = false -> False:=fun h => by rw [g1] at h; cases h
     repeat' (first
|apply zS
 . conv => lhs; whnf
 . assumption
|exact (K2 ‹_›).elim
|refine zA ?_
|refine zI ?_
|refine zb ?_
|apply aw_1
 conv => whnf
 refine ⟨?_,trivial⟩
|apply zg rfl rfl
 . conv => lhs; whnf
 . conv => lhs; whnf
 . first | exact bT1 ‹_› | exact bT2 ‹_›
|apply s_1
 conv => whnf; arg 1; arg 4; arg 3; whnf
 refine ⟨?_,?_⟩
|apply zM rfl
 . conv => lhs; whnf
 . conv => lhs; whnf
 . first | rfl | assumption
 . conv => lhs; whnf; arg 2; whnf
|apply zP rfl
 . conv => lhs; whnf
 . conv => lhs; whnf
 . conv => lhs; whnf; arg 2; whnf
|refine zG ?_
|refine zB rfl ?_
|refine zD ?_
|refine zH ?_
|refine ⟨_,by conv => lhs; whnf; arg 2; whnf,?_⟩; conv => rhs; whnf
|exact trivial
|intro hg)
     all_goals first
      | (rw [zA3 hR (.inl hm)]; done)
      | skip
   . have g1 : decide ((i2 : Int) < (b.length : Nat)) = false:=decide_eq_false (by omega)
     have K2 : (decide ((i2 : Int) < (b.length : Nat)) == true) = true -> False:=fun h => by rw [g1] at h; cases h
     repeat' (first
|exact (K2 ‹_›).elim
|refine zA ?_
|refine zI ?_
|refine zb ?_
|apply aw_1
 conv => whnf
 refine ⟨?_,trivial⟩
|apply ze rfl rfl
 . conv => lhs; whnf
 . conv => lhs; whnf
 . first | exact bF1 ‹_› | exact bF2 ‹_›
|apply s_1
 conv => whnf; arg 1; arg 4; arg 3; whnf
 refine ⟨?_,?_⟩
|apply zl rfl
 . conv => lhs; whnf
 . conv => lhs; whnf
 . first | rfl | assumption
|apply zP rfl
 . conv => lhs; whnf
 . conv => lhs; whnf
 . conv => lhs; whnf; arg 2; whnf
|refine zG ?_
|refine zB rfl ?_
|refine zD ?_
|refine zH ?_
|refine ⟨_,by conv => lhs; whnf; arg 2; whnf,?_⟩; conv => rhs; whnf
|exact trivial
|intro hg)
     all_goals first
      | (rw [zA3 hR (.inr (by omega))]; done)
      | skip
 . have f1 : decide ((i : Int) < (a.length : Nat)) = false:=decide_eq_false (by omega)
   have K1 : (decide ((i : Int) < (a.length : Nat)) == true) = true -> False:=fun h => by rw [f1] at h; cases h
   repeat' (first
|exact (K1 ‹_›).elim
|refine zA ?_
|refine zI ?_
|refine zb ?_
|apply aw_1
 conv => whnf
 refine ⟨?_,trivial⟩
|apply ze rfl rfl
 . conv => lhs; whnf
 . conv => lhs; whnf
 . first | exact bF1 ‹_› | exact bF2 ‹_›
|apply s_1
 conv => whnf; arg 1; arg 4; arg 3; whnf
 refine ⟨?_,?_⟩
|apply zl rfl
 . conv => lhs; whnf
 . conv => lhs; whnf
 . first | rfl | assumption
|apply zP rfl
 . conv => lhs; whnf
 . conv => lhs; whnf
 . conv => lhs; whnf; arg 2; whnf
|refine zG ?_
|refine zB rfl ?_
|refine zD ?_
|exact trivial
|intro hg)
   clear K1 f1
   refine z7 (fun j st => ∃ i p,i + j = b.length /\ stepB8 600 (fun i n => wB8 (n + weighB8 (bulkL ((gD b i).f 2).l + 1) ((gD b i).f 2).l 600)) j i p = R /\ Sub (cx EN Tryz.prog s w he) st (HlR8 a b p i)) b.length ⟨0,_,by omega,hR,Sub.live ⟨rfl,rfl,rfl,trivial⟩ ⟨rfl,trivial⟩⟩ ?_
   clear hR
   rintro j2 st2 ⟨i2,p,hij2,hR,hs3⟩
   refine z8 hs3 ?_
   clear hs3
   have h4 : (i2 < b.length /\ p <= 600) \/ (i2 < b.length /\ ¬ p <= 600) \/ ¬ i2 < b.length:=by omega
   rcases h4 with ⟨hi2,hm⟩ | ⟨hi2,hm⟩ | hi2
   . obtain ⟨j2,rfl⟩ : ∃ q,j2 = q + 1:=⟨j2 - 1,by omega⟩
     have g1 : decide ((i2 : Int) < (b.length : Nat)) = true:=decide_eq_true (by omega)
     have g2 : decide (p <= 600) = true:=decide_eq_true hm
     have K2 : (decide ((i2 : Int) < (b.length : Nat)) == true) = false -> False:=fun h => by rw [g1] at h; cases h
     have hw:=zDw ((gD b i2).f 2).l 600
     repeat' (first
|apply zBo rfl rfl rfl
 . conv => lhs; whnf
 . conv => lhs; whnf
|apply zW
 . conv => lhs; whnf
 . assumption
|exact (K2 ‹_›).elim
|refine zA ?_
|refine zI ?_
|refine zb ?_
|refine zU ?_
|apply aw_1
 conv => whnf
 refine ⟨?_,trivial⟩
|apply zg rfl rfl
 . conv => lhs; whnf
 . conv => lhs; whnf
 . first | exact bT1 ‹_› | exact bT2 ‹_›
|apply s_1
 conv => whnf; arg 1; arg 4; arg 3; whnf
 refine ⟨?_,?_⟩
|apply zd rfl
 . conv => lhs; whnf
 . conv => lhs; whnf
 . first | exact hw
|apply zM rfl
 . conv => lhs; whnf
 . conv => lhs; whnf
 . first | rfl | assumption
 . conv => lhs; whnf; arg 2; whnf
|apply zP rfl
 . conv => lhs; whnf
 . conv => lhs; whnf
 . conv => lhs; whnf; arg 2; whnf
|exact trivial
|intro hg)
     all_goals first
      | exact zo (by omega)
      | exact zBM hi2
      | exact zh (j':=j2) (by omega) ⟨i2 + 1,_,by omega,zCD hR hm,Sub.live ⟨rfl,rfl,wq1 (by omega),trivial⟩ ⟨rfl,trivial⟩⟩
      | skip
   . have g1 : decide ((i2 : Int) < (b.length : Nat)) = true:=decide_eq_true (by omega)
     have g2 : decide (p <= 600) = false:=decide_eq_false hm
     have K2 : (decide ((i2 : Int) < (b.length : Nat)) == true) = false -> False:=fun h => by rw [g1] at h; cases h
     repeat' (first
|apply zS
 . conv => lhs; whnf
 . assumption
|exact (K2 ‹_›).elim
|refine zA ?_
|refine zI ?_
|refine zb ?_
|apply aw_1
 conv => whnf
 refine ⟨?_,trivial⟩
|apply zg rfl rfl
 . conv => lhs; whnf
 . conv => lhs; whnf
 . first | exact bT1 ‹_› | exact bT2 ‹_›
|apply s_1
 conv => whnf; arg 1; arg 4; arg 3; whnf
 refine ⟨?_,?_⟩
|apply zM rfl
 . conv => lhs; whnf
 . conv => lhs; whnf
 . first | rfl | assumption
 . conv => lhs; whnf; arg 2; whnf
|apply zP rfl
 . conv => lhs; whnf
 . conv => lhs; whnf
 . conv => lhs; whnf; arg 2; whnf
|refine zG ?_
|refine zB rfl ?_
|refine zD ?_
|refine zH ?_
|refine ⟨_,by conv => lhs; whnf; arg 2; whnf,?_⟩; conv => rhs; whnf
|exact trivial
|intro hg)
     all_goals first
      | (rw [zA3 hR (.inl hm)]; done)
      | skip
   . have g1 : decide ((i2 : Int) < (b.length : Nat)) = false:=decide_eq_false (by omega)
     have K2 : (decide ((i2 : Int) < (b.length : Nat)) == true) = true -> False:=fun h => by rw [g1] at h; cases h
     repeat' (first
|exact (K2 ‹_›).elim
|refine zA ?_
|refine zI ?_
|refine zb ?_
|apply aw_1
 conv => whnf
 refine ⟨?_,trivial⟩
|apply ze rfl rfl
 . conv => lhs; whnf
 . conv => lhs; whnf
 . first | exact bF1 ‹_› | exact bF2 ‹_›
|apply s_1
 conv => whnf; arg 1; arg 4; arg 3; whnf
 refine ⟨?_,?_⟩
|apply zl rfl
 . conv => lhs; whnf
 . conv => lhs; whnf
 . first | rfl | assumption
|apply zP rfl
 . conv => lhs; whnf
 . conv => lhs; whnf
 . conv => lhs; whnf; arg 2; whnf
|refine zG ?_
|refine zB rfl ?_
|refine zD ?_
|refine zH ?_
|refine ⟨_,by conv => lhs; whnf; arg 2; whnf,?_⟩; conv => rhs; whnf
|exact trivial
|intro hg)
     all_goals first
      | (rw [zA3 hR (.inr (by omega))]; done)
      | skip
end Go.Proofs.YtdlnnlglmifceaaGreatDoor
namespace Go.Proofs.YtdlnnlglmifceaaGreatDoor
open Go.RowKit
set_option linter.unusedSectionVars false
attribute [local irreducible] wpList Calls Code.wp AW AWo OpOk seqK zAP zAR loopK endK AC zy Yld Sub
attribute [local irreducible] ACB ACX ACE absLexG YldG
def tupR (t : Tok) (k : Nat) (e : Int) : V:=.tup [.agg (tokC t),.c (.int .i64 (k : Int)),.c (.int .i64 e)]
def failR : V:=tupR ⟨0,[],0⟩ 0 3
def readV (l : List UInt8) (i : Nat) : V:=
 match l with
 | [] => .any
 | c :: r =>
   if zAy c then tupR ⟨1,[c],i⟩ (i + 1) 0
   else if c == 46 then (if r.take 2 = [46,46] then tupR ⟨1,[46,46,46],i⟩ (i + 3) 0 else failR)
   else if c == 45 || digU c then tupR ⟨3,c :: r.take (spanN wrdU r),i⟩ (i + 1 + spanN wrdU r) (nerU (numU (c :: r.take (spanN wrdU r))))
   else if wrdU c then (if spanN wrdU r + 1 > 64 then failR else tupR ⟨2,c :: r.take (spanN wrdU r),i⟩ (i + 1 + spanN wrdU r) 0)
   else if c == 34 then
    (match litN r with
    | none => failR
    | some n => tupR ⟨4,(unquoteU (c :: r.take n)).getD [],i⟩ (i + 1 + n) (uqE (unquoteU (c :: r.take n))))
   else failR
theorem zIA (s : List UInt8) {a b : Nat} (ha : a <= b) (hb : b <= s.length) : (bs s).extract a b = bs ((s.drop a).take (b - a)):=by
 apply ByteArray.ext
 rw [ByteArray.data_extract]
 apply Array.ext'
 rw [Array.toList_extract,zA2,zA2]
section
variable {s : List UInt8} {i : Nat} (hi : i < s.length) (hs : s.length <= 70000)
include hi hs
theorem read_sign (h : zAy s[i] = true) : AC EN5 Tryz.prog 74 [.c (.string (bs s)),.c (.int .i64 (i : Int))] (tupR ⟨1,[s[i]],i⟩ (i + 1) 0):=by
 have hz:=zAL s
 have hbt:=zBy hi
 have hgd:=zDh hi
 have hdr : s.drop i = s[i] :: s.drop (i + 1):=List.drop_eq_getElem_cons hi
 have q : ∀ n : Nat,n < 256 -> (zx (bs s) ((i : Int)).toNat == (n : Int)) = (s[i] == UInt8.ofNat n):=fun n hn => by rw [hbt]; exact zD0 _ n hn
 have hsg:=zAW ((bs s).data.toList.getD ((i : Int)).toNat 0)
 have f0 : zAy ((bs s).data.toList.getD ((i : Int)).toNat 0) = true:=by rw [Int.toNat_natCast,hgd]; exact h
 have hx : (bs s).extract ((i : Int)).toNat (((i : Int) + 1)).toNat = bs [s[i]]:=by
  rw [show (((i : Int) + 1)).toNat = i + 1 by omega,Int.toNat_natCast,zIA s (by omega) (by omega),hdr,Nat.add_sub_cancel_left]; rfl
 refine zX 116 Tryz.func74 rfl rfl rfl rfl ?_
 intro s0 w he
 repeat' (first
|apply zW
 . conv => lhs; whnf
 . assumption
|refine zA ?_
|refine zI ?_
|refine zb ?_
|apply aw_1
 conv => whnf
 refine ⟨?_,trivial⟩
|apply s_1
 conv => whnf; arg 1; arg 4; arg 3; whnf
 refine ⟨?_,?_⟩
|apply zd rfl
 . conv => lhs; whnf
 . conv => lhs; whnf
 . first | exact hsg
|apply zr rfl rfl rfl
 . conv => lhs; whnf
 . conv => lhs; whnf; arg 1; whnf
 . conv => lhs; whnf; arg 1; whnf
 . exact ⟨by kernel_rfl,by kernel_rfl⟩
 . rfl
|refine zK ?_
|refine zC ?_
|refine zH ?_
|exact trivial)
 . refine ⟨_,_,_,rfl,rfl,rfl,?_⟩
   show _ = V.tup [.agg [.c (.int .i64 1),.c (.string ((bs s).extract ((i : Int)).toNat (((i : Int) + 1)).toNat)),.c (.int .i64 (i : Int))],.c (.int .i64 ((i : Int) + 1)),.c (.int .i64 0)]
   rw [hx]; rfl
 all_goals first
  | exact zo (by omega)
  | exact ⟨by kernel_rfl,by omega,by omega⟩
  | exact ⟨by kernel_rfl,by omega,by omega,by omega⟩
  | (rw [hbt]; exact zAj _)
  | exact (show Tryz.prog.underlying _ = some TypeDesc.string by kernel_rfl)
  | skip
theorem read_dots (h0 : zAy s[i] = false) (h : s[i] = 46) (b : Bool) (hb : Lib.hasPrefix (s.drop i) [46,46,46] = b) (hl : b = true -> i + 3 <= s.length) : AC EN5 Tryz.prog 74 [.c (.string (bs s)),.c (.int .i64 (i : Int))] (if b = true then tupR ⟨1,[46,46,46],i⟩ (i + 3) 0 else failR):=by
 have hz:=zAL s
 have hbt:=zBy hi
 have hgd:=zDh hi
 have hdr : s.drop i = s[i] :: s.drop (i + 1):=List.drop_eq_getElem_cons hi
 have q : ∀ n : Nat,n < 256 -> (zx (bs s) ((i : Int)).toNat == (n : Int)) = (s[i] == UInt8.ofNat n):=fun n hn => by rw [hbt]; exact zD0 _ n hn
 have hsg:=zAW ((bs s).data.toList.getD ((i : Int)).toNat 0)
 have f0 : zAy ((bs s).data.toList.getD ((i : Int)).toNat 0) = false:=by rw [Int.toNat_natCast,hgd]; exact h0
 have f1 : (zx (bs s) ((i : Int)).toNat == 46) = true:=(q 46 (by omega)).trans (by rw [h]; rfl)
 have hpr:=prefix_ac ((bs s).extract ((i : Int)).toNat (bs s).size) { data:=#[46,46,46] }
 rw [zH8] at hpr
 have hb2 : Lib.hasPrefix (s.drop i) ({ data:=#[46,46,46] } : ByteArray).data.toList = b:=hb
 rw [hb2] at hpr
 cases b
 . refine zX 116 Tryz.func74 rfl rfl rfl rfl ?_
   intro s0 w he
   repeat' (first
|apply zW
 . conv => lhs; whnf
 . assumption
|apply zS
 . conv => lhs; whnf
 . assumption
|refine zA ?_
|refine zI ?_
|refine zb ?_
|apply aw_1
 conv => whnf
 refine ⟨?_,trivial⟩
|apply s_1
 conv => whnf; arg 1; arg 4; arg 3; whnf
 refine ⟨?_,?_⟩
|apply zd rfl
 . conv => lhs; whnf
 . conv => lhs; whnf
 . first | exact hsg | exact hpr
|apply zr rfl rfl rfl
 . conv => lhs; whnf
 . conv => lhs; whnf; arg 1; whnf
 . conv => lhs; whnf; arg 1; whnf
 . exact ⟨by kernel_rfl,by kernel_rfl⟩
 . rfl
|refine zK ?_
|refine zC ?_
|refine zH ?_
|exact trivial)
   . exact ⟨_,_,_,rfl,rfl,rfl,rfl⟩
   all_goals first
    | exact zo (by omega)
    | exact ⟨by kernel_rfl,by omega,by omega⟩
    | exact ⟨by kernel_rfl,by omega,by omega,by omega⟩
    | (rw [hbt]; exact zAj _)
    | exact (show Tryz.prog.underlying _ = some TypeDesc.string by kernel_rfl)
    | skip
 . have hl2:=hl rfl
   refine zX 116 Tryz.func74 rfl rfl rfl rfl ?_
   intro s0 w he
   repeat' (first
|apply zW
 . conv => lhs; whnf
 . assumption
|apply zS
 . conv => lhs; whnf
 . assumption
|refine zA ?_
|refine zI ?_
|refine zb ?_
|apply aw_1
 conv => whnf
 refine ⟨?_,trivial⟩
|apply s_1
 conv => whnf; arg 1; arg 4; arg 3; whnf
 refine ⟨?_,?_⟩
|apply zd rfl
 . conv => lhs; whnf
 . conv => lhs; whnf
 . first | exact hsg | exact hpr
|apply zr rfl rfl rfl
 . conv => lhs; whnf
 . conv => lhs; whnf; arg 1; whnf
 . conv => lhs; whnf; arg 1; whnf
 . exact ⟨by kernel_rfl,by kernel_rfl⟩
 . rfl
|refine zK ?_
|refine zC ?_
|refine zH ?_
|exact trivial)
   . exact ⟨_,_,_,rfl,rfl,rfl,rfl⟩
   all_goals first
    | exact zo (by omega)
    | exact ⟨by kernel_rfl,by omega,by omega⟩
    | exact ⟨by kernel_rfl,by omega,by omega,by omega⟩
    | (rw [hbt]; exact zAj _)
    | exact (show Tryz.prog.underlying _ = some TypeDesc.string by kernel_rfl)
    | skip
theorem read_num (h0 : zAy s[i] = false) (h46 : s[i] ≠ 46) (h : s[i] = 45 \/ (s[i] ≠ 45 /\ digU s[i] = true)) :
 AC EN5 Tryz.prog 74 [.c (.string (bs s)),.c (.int .i64 (i : Int))] (tupR ⟨3,s[i] :: (s.drop (i + 1)).take (spanN wrdU (s.drop (i + 1))),i⟩ (i + 1 + spanN wrdU (s.drop (i + 1))) (nerU (numU (s[i] :: (s.drop (i + 1)).take (spanN wrdU (s.drop (i + 1))))))):=by
 have hz:=zAL s
 have hbt:=zBy hi
 have hgd:=zDh hi
 have hdr : s.drop i = s[i] :: s.drop (i + 1):=List.drop_eq_getElem_cons hi
 have q : ∀ n : Nat,n < 256 -> (zx (bs s) ((i : Int)).toNat == (n : Int)) = (s[i] == UInt8.ofNat n):=fun n hn => by rw [hbt]; exact zD0 _ n hn
 have hsg:=zAW ((bs s).data.toList.getD ((i : Int)).toNat 0)
 have f0 : zAy ((bs s).data.toList.getD ((i : Int)).toNat 0) = false:=by rw [Int.toNat_natCast,hgd]; exact h0
 have hle:=zBs wrdU (s.drop (i + 1))
 rw [List.length_drop] at hle
 have f1 : (zx (bs s) ((i : Int)).toNat == 46) = false:=(q 46 (by omega)).trans (by simpa using h46)
 have hsp:=zGs s (i + 1) (by omega) (by omega)
 have hx : (bs s).extract ((i : Int)).toNat (((i + 1 + spanN wrdU (s.drop (i + 1)) : Nat) : Int)).toNat = bs (s[i] :: (s.drop (i + 1)).take (spanN wrdU (s.drop (i + 1)))):=by
  rw [Int.toNat_natCast,Int.toNat_natCast,zIA s (by omega) (by omega),hdr,show i + 1 + spanN wrdU (s.drop (i + 1)) - i = spanN wrdU (s.drop (i + 1)) + 1 by omega,List.take_succ_cons]
 have hsz : ((bs s).extract ((i : Int)).toNat (((i + 1 + spanN wrdU (s.drop (i + 1)) : Nat) : Int)).toNat).size <= 281474976710656:=by rw [ByteArray.size_extract]; omega
 have hnu:=zE0 _ hsz
 unfold numVV at hnu
 have htx : tx ((bs s).extract ((i : Int)).toNat (((i + 1 + spanN wrdU (s.drop (i + 1)) : Nat) : Int)).toNat) = s[i] :: (s.drop (i + 1)).take (spanN wrdU (s.drop (i + 1))):=by rw [hx]; exact zA2 _
 rw [htx] at hnu
 have k45 : s[i] = 45 -> ((zx (bs s) ((i : Int)).toNat == 45) == false) = true -> False:=fun h h2 => by
  have e : (zx (bs s) ((i : Int)).toNat == 45) = true:=(q 45 (by omega)).trans (by rw [h]; rfl)
  rw [e] at h2; cases h2
 have kn45 : s[i] ≠ 45 -> ((zx (bs s) ((i : Int)).toNat == 45) == false) = false -> False:=fun h h2 => by
  have e : (zx (bs s) ((i : Int)).toNat == 45) = false:=(q 45 (by omega)).trans (by simpa using h)
  rw [e] at h2; cases h2
 have kge : 48 <= s[i].toNat -> (decide (zx (bs s) ((i : Int)).toNat >= 48) == true) = false -> False:=fun h h2 => by
  rw [hbt,decide_eq_true (show ((s[i].toNat : Nat) : Int) >= 48 by omega)] at h2; cases h2
 have kng : s[i].toNat < 48 -> (decide (zx (bs s) ((i : Int)).toNat >= 48) == true) = true -> False:=fun h h2 => by
  rw [hbt,decide_eq_false (show ¬ ((s[i].toNat : Nat) : Int) >= 48 by omega)] at h2; cases h2
 rcases h with h | ⟨h,hd⟩
 . have f2 : (zx (bs s) ((i : Int)).toNat == 45) = true:=(q 45 (by omega)).trans (by rw [h]; rfl)
   have k1:=k45 h
   refine zX 116 Tryz.func74 rfl rfl rfl rfl ?_
   intro s0 w he
   repeat' (first
|apply zS
 . conv => lhs; whnf
 . assumption
|exact (k1 ‹_›).elim
|refine zA ?_
|refine zI ?_
|refine zb ?_
|apply aw_1
 conv => whnf
 refine ⟨?_,trivial⟩
|apply zg rfl rfl
 . conv => lhs; whnf
 . conv => lhs; whnf
 . first | exact bT1 ‹_› | exact bT2 ‹_›
|apply s_1
 conv => whnf; arg 1; arg 4; arg 3; whnf
 refine ⟨?_,?_⟩
|apply zd rfl
 . conv => lhs; whnf
 . conv => lhs; whnf
 . first | exact hsg | exact hsp | exact hnu
|apply zr rfl rfl rfl
 . conv => lhs; whnf
 . conv => lhs; whnf; arg 1; whnf
 . conv => lhs; whnf; arg 1; whnf
 . exact ⟨by kernel_rfl,by kernel_rfl⟩
 . rfl
|apply zl rfl
 . conv => lhs; whnf
 . conv => lhs; whnf
 . first | rfl | assumption
|apply zP rfl
 . conv => lhs; whnf
 . conv => lhs; whnf
 . conv => lhs; whnf; arg 2; whnf
|refine zK ?_
|refine zC ?_
|refine zH ?_
|exact trivial
|intro hg)
   . refine ⟨_,_,_,rfl,rfl,rfl,?_⟩
     show _ = V.tup [.agg [.c (.int .i64 3),.c (.string ((bs s).extract ((i : Int)).toNat (((i + 1 + spanN wrdU (s.drop (i + 1)) : Nat) : Int)).toNat)),.c (.int .i64 (i : Int))],.c (.int .i64 ((i + 1 + spanN wrdU (s.drop (i + 1)) : Nat) : Int)),.c (.int .i64 (nerU (numU (s[i] :: (s.drop (i + 1)).take (spanN wrdU (s.drop (i + 1)))))))]
     rw [hx]; rfl
   all_goals first
    | exact zo (by omega)
    | exact ⟨by kernel_rfl,by omega,by omega⟩
    | exact ⟨by kernel_rfl,by omega,by omega,by omega⟩
    | (rw [hbt]; exact zAj _)
    | exact (show Tryz.prog.underlying _ = some TypeDesc.string by kernel_rfl)
    | skip
 . have f2 : (zx (bs s) ((i : Int)).toNat == 45) = false:=(q 45 (by omega)).trans (by simpa using h)
   have hd2 : 48 <= s[i].toNat /\ s[i].toNat <= 57:=by simpa [digU] using hd
   have f3 : decide (zx (bs s) ((i : Int)).toNat >= 48) = true:=by rw [hbt]; exact decide_eq_true (by omega)
   have f4 : decide (zx (bs s) ((i : Int)).toNat <= 57) = true:=by rw [hbt]; exact decide_eq_true (by omega)
   have k1:=kn45 h
   have k2:=kge hd2.1
   refine zX 116 Tryz.func74 rfl rfl rfl rfl ?_
   intro s0 w he
   repeat' (first
|apply zq rfl rfl rfl
 . conv => lhs; whnf
 . first | rfl | assumption
 . conv => lhs; whnf
 . first | exact bT1 ‹_› | exact bT2 ‹_› | rfl
|apply zW
 . conv => lhs; whnf
 . assumption
|apply zS
 . conv => lhs; whnf
 . assumption
|exact (k1 ‹_›).elim
|exact (k2 ‹_›).elim
|refine zA ?_
|refine zI ?_
|refine zb ?_
|apply aw_1
 conv => whnf
 refine ⟨?_,trivial⟩
|apply ze rfl rfl
 . conv => lhs; whnf
 . conv => lhs; whnf
 . first | exact bF1 ‹_› | exact bF2 ‹_›
|apply s_1
 conv => whnf; arg 1; arg 4; arg 3; whnf
 refine ⟨?_,?_⟩
|apply zd rfl
 . conv => lhs; whnf
 . conv => lhs; whnf
 . first | exact hsg | exact hsp | exact hnu
|apply zr rfl rfl rfl
 . conv => lhs; whnf
 . conv => lhs; whnf; arg 1; whnf
 . conv => lhs; whnf; arg 1; whnf
 . exact ⟨by kernel_rfl,by kernel_rfl⟩
 . rfl
|apply zM rfl
 . conv => lhs; whnf
 . conv => lhs; whnf
 . first | rfl | assumption
 . conv => lhs; whnf; arg 2; whnf
|apply zP rfl
 . conv => lhs; whnf
 . conv => lhs; whnf
 . conv => lhs; whnf; arg 2; whnf
|refine zK ?_
|refine zC ?_
|refine zH ?_
|exact trivial
|intro hg)
   . refine ⟨_,_,_,rfl,rfl,rfl,?_⟩
     show _ = V.tup [.agg [.c (.int .i64 3),.c (.string ((bs s).extract ((i : Int)).toNat (((i + 1 + spanN wrdU (s.drop (i + 1)) : Nat) : Int)).toNat)),.c (.int .i64 (i : Int))],.c (.int .i64 ((i + 1 + spanN wrdU (s.drop (i + 1)) : Nat) : Int)),.c (.int .i64 (nerU (numU (s[i] :: (s.drop (i + 1)).take (spanN wrdU (s.drop (i + 1)))))))]
     rw [hx]; rfl
   all_goals first
    | exact zo (by omega)
    | exact ⟨by kernel_rfl,by omega,by omega⟩
    | exact ⟨by kernel_rfl,by omega,by omega,by omega⟩
    | (rw [hbt]; exact zAj _)
    | exact (show Tryz.prog.underlying _ = some TypeDesc.string by kernel_rfl)
    | skip
theorem read_word (h0 : zAy s[i] = false) (h46 : s[i] ≠ 46) (h45 : s[i] ≠ 45) (hr : s[i].toNat < 48 \/ 57 < s[i].toNat) (hw : wrdU s[i] = true) (hlen : spanN wrdU (s.drop (i + 1)) + 1 <= 64) : AC EN5 Tryz.prog 74 [.c (.string (bs s)),.c (.int .i64 (i : Int))] (tupR ⟨2,s[i] :: (s.drop (i + 1)).take (spanN wrdU (s.drop (i + 1))),i⟩ (i + 1 + spanN wrdU (s.drop (i + 1))) 0):=by
 have hz:=zAL s
 have hbt:=zBy hi
 have hgd:=zDh hi
 have hdr : s.drop i = s[i] :: s.drop (i + 1):=List.drop_eq_getElem_cons hi
 have q : ∀ n : Nat,n < 256 -> (zx (bs s) ((i : Int)).toNat == (n : Int)) = (s[i] == UInt8.ofNat n):=fun n hn => by rw [hbt]; exact zD0 _ n hn
 have hsg:=zAW ((bs s).data.toList.getD ((i : Int)).toNat 0)
 have f0 : zAy ((bs s).data.toList.getD ((i : Int)).toNat 0) = false:=by rw [Int.toNat_natCast,hgd]; exact h0
 have hle:=zBs wrdU (s.drop (i + 1))
 rw [List.length_drop] at hle
 have f1 : (zx (bs s) ((i : Int)).toNat == 46) = false:=(q 46 (by omega)).trans (by simpa using h46)
 have k45 : s[i] = 45 -> ((zx (bs s) ((i : Int)).toNat == 45) == false) = true -> False:=fun h h2 => by
  have e : (zx (bs s) ((i : Int)).toNat == 45) = true:=(q 45 (by omega)).trans (by rw [h]; rfl)
  rw [e] at h2; cases h2
 have kn45 : s[i] ≠ 45 -> ((zx (bs s) ((i : Int)).toNat == 45) == false) = false -> False:=fun h h2 => by
  have e : (zx (bs s) ((i : Int)).toNat == 45) = false:=(q 45 (by omega)).trans (by simpa using h)
  rw [e] at h2; cases h2
 have kge : 48 <= s[i].toNat -> (decide (zx (bs s) ((i : Int)).toNat >= 48) == true) = false -> False:=fun h h2 => by
  rw [hbt,decide_eq_true (show ((s[i].toNat : Nat) : Int) >= 48 by omega)] at h2; cases h2
 have kng : s[i].toNat < 48 -> (decide (zx (bs s) ((i : Int)).toNat >= 48) == true) = true -> False:=fun h h2 => by
  rw [hbt,decide_eq_false (show ¬ ((s[i].toNat : Nat) : Int) >= 48 by omega)] at h2; cases h2
 have hlt:=zBq ((bs s).data.toList.getD ((i : Int)).toNat 0)
 have f5 : wrdU ((bs s).data.toList.getD ((i : Int)).toNat 0) = true:=by rw [Int.toNat_natCast,hgd]; exact hw
 have hsp:=zGs s i (by omega) (by omega)
 have hse : i + spanN wrdU (s.drop i) = i + 1 + spanN wrdU (s.drop (i + 1)):=by rw [hdr,spanN,if_pos hw]; omega
 rw [hse] at hsp
 have hx : (bs s).extract ((i : Int)).toNat (((i + 1 + spanN wrdU (s.drop (i + 1)) : Nat) : Int)).toNat = bs (s[i] :: (s.drop (i + 1)).take (spanN wrdU (s.drop (i + 1)))):=by
  rw [Int.toNat_natCast,Int.toNat_natCast,zIA s (by omega) (by omega),hdr,show i + 1 + spanN wrdU (s.drop (i + 1)) - i = spanN wrdU (s.drop (i + 1)) + 1 by omega,List.take_succ_cons]
 have f6 : decide (((i + 1 + spanN wrdU (s.drop (i + 1)) : Nat) : Int) - (i : Int) > 64) = false:=decide_eq_false (by omega)
 rcases hr with hr | hr
 . have f2 : (zx (bs s) ((i : Int)).toNat == 45) = false:=(q 45 (by omega)).trans (by simpa using h45)
   have k1:=kn45 h45
   have k2:=kng hr
   have f3 : decide (zx (bs s) ((i : Int)).toNat >= 48) = false:=by rw [hbt]; exact decide_eq_false (by omega)
   refine zX 116 Tryz.func74 rfl rfl rfl rfl ?_
   intro s0 w he
   repeat' (first
|apply zu rfl rfl rfl
 . conv => lhs; whnf
 . first | rfl | assumption
 . conv => lhs; whnf
 . first | exact bF1 ‹_› | exact bF2 ‹_› | rfl
|apply zW
 . conv => lhs; whnf
 . assumption
|apply zS
 . conv => lhs; whnf
 . assumption
|exact (k1 ‹_›).elim
|exact (k2 ‹_›).elim
|refine zA ?_
|refine zI ?_
|refine zb ?_
|apply aw_1
 conv => whnf
 refine ⟨?_,trivial⟩
|apply ze rfl rfl
 . conv => lhs; whnf
 . conv => lhs; whnf
 . first | exact bF1 ‹_› | exact bF2 ‹_›
|apply s_1
 conv => whnf; arg 1; arg 4; arg 3; whnf
 refine ⟨?_,?_⟩
|apply zd rfl
 . conv => lhs; whnf
 . conv => lhs; whnf
 . first | exact hsg | exact hlt | exact hsp
|apply zr rfl rfl rfl
 . conv => lhs; whnf
 . conv => lhs; whnf; arg 1; whnf
 . conv => lhs; whnf; arg 1; whnf
 . exact ⟨by kernel_rfl,by kernel_rfl⟩
 . rfl
|apply zM rfl
 . conv => lhs; whnf
 . conv => lhs; whnf
 . first | rfl | assumption
 . conv => lhs; whnf; arg 2; whnf
|apply zl rfl
 . conv => lhs; whnf
 . conv => lhs; whnf
 . first | rfl | assumption
|apply zP rfl
 . conv => lhs; whnf
 . conv => lhs; whnf
 . conv => lhs; whnf; arg 2; whnf
|refine zK ?_
|refine zC ?_
|refine zH ?_
|exact trivial
|intro hg)
   . refine ⟨_,_,_,rfl,rfl,rfl,?_⟩
     show _ = V.tup [.agg [.c (.int .i64 2),.c (.string ((bs s).extract ((i : Int)).toNat (((i + 1 + spanN wrdU (s.drop (i + 1)) : Nat) : Int)).toNat)),.c (.int .i64 (i : Int))],.c (.int .i64 ((i + 1 + spanN wrdU (s.drop (i + 1)) : Nat) : Int)),.c (.int .i64 0)]
     rw [hx]; rfl
   all_goals first
    | exact zo (by omega)
    | exact ⟨by kernel_rfl,by omega,by omega⟩
    | exact ⟨by kernel_rfl,by omega,by omega,by omega⟩
    | (rw [hbt]; exact zAj _)
    | exact (show Tryz.prog.underlying _ = some TypeDesc.string by kernel_rfl)
    | skip
 . have f2 : (zx (bs s) ((i : Int)).toNat == 45) = false:=(q 45 (by omega)).trans (by simpa using h45)
   have k1:=kn45 h45
   have k2:=kge (by omega)
   have f3 : decide (zx (bs s) ((i : Int)).toNat >= 48) = true:=by rw [hbt]; exact decide_eq_true (by omega)
   have f4 : decide (zx (bs s) ((i : Int)).toNat <= 57) = false:=by rw [hbt]; exact decide_eq_false (by omega)
   refine zX 116 Tryz.func74 rfl rfl rfl rfl ?_
   intro s0 w he
   repeat' (first
|apply zq rfl rfl rfl
 . conv => lhs; whnf
 . first | rfl | assumption
 . conv => lhs; whnf
 . first | exact bT1 ‹_› | exact bT2 ‹_› | rfl
|apply zW
 . conv => lhs; whnf
 . assumption
|apply zS
 . conv => lhs; whnf
 . assumption
|exact (k1 ‹_›).elim
|exact (k2 ‹_›).elim
|refine zA ?_
|refine zI ?_
|refine zb ?_
|apply aw_1
 conv => whnf
 refine ⟨?_,trivial⟩
|apply ze rfl rfl
 . conv => lhs; whnf
 . conv => lhs; whnf
 . first | exact bF1 ‹_› | exact bF2 ‹_›
|apply s_1
 conv => whnf; arg 1; arg 4; arg 3; whnf
 refine ⟨?_,?_⟩
|apply zd rfl
 . conv => lhs; whnf
 . conv => lhs; whnf
 . first | exact hsg | exact hlt | exact hsp
|apply zr rfl rfl rfl
 . conv => lhs; whnf
 . conv => lhs; whnf; arg 1; whnf
 . conv => lhs; whnf; arg 1; whnf
 . exact ⟨by kernel_rfl,by kernel_rfl⟩
 . rfl
|apply zM rfl
 . conv => lhs; whnf
 . conv => lhs; whnf
 . first | rfl | assumption
 . conv => lhs; whnf; arg 2; whnf
|apply zP rfl
 . conv => lhs; whnf
 . conv => lhs; whnf
 . conv => lhs; whnf; arg 2; whnf
|refine zK ?_
|refine zC ?_
|refine zH ?_
|exact trivial
|intro hg)
   . refine ⟨_,_,_,rfl,rfl,rfl,?_⟩
     show _ = V.tup [.agg [.c (.int .i64 2),.c (.string ((bs s).extract ((i : Int)).toNat (((i + 1 + spanN wrdU (s.drop (i + 1)) : Nat) : Int)).toNat)),.c (.int .i64 (i : Int))],.c (.int .i64 ((i + 1 + spanN wrdU (s.drop (i + 1)) : Nat) : Int)),.c (.int .i64 0)]
     rw [hx]; rfl
   all_goals first
    | exact zo (by omega)
    | exact ⟨by kernel_rfl,by omega,by omega⟩
    | exact ⟨by kernel_rfl,by omega,by omega,by omega⟩
    | (rw [hbt]; exact zAj _)
    | exact (show Tryz.prog.underlying _ = some TypeDesc.string by kernel_rfl)
    | skip
theorem read_long (h0 : zAy s[i] = false) (h46 : s[i] ≠ 46) (h45 : s[i] ≠ 45) (hr : s[i].toNat < 48 \/ 57 < s[i].toNat) (hw : wrdU s[i] = true) (hlen : ¬ spanN wrdU (s.drop (i + 1)) + 1 <= 64) : AC EN5 Tryz.prog 74 [.c (.string (bs s)),.c (.int .i64 (i : Int))] failR:=by
 have hz:=zAL s
 have hbt:=zBy hi
 have hgd:=zDh hi
 have hdr : s.drop i = s[i] :: s.drop (i + 1):=List.drop_eq_getElem_cons hi
 have q : ∀ n : Nat,n < 256 -> (zx (bs s) ((i : Int)).toNat == (n : Int)) = (s[i] == UInt8.ofNat n):=fun n hn => by rw [hbt]; exact zD0 _ n hn
 have hsg:=zAW ((bs s).data.toList.getD ((i : Int)).toNat 0)
 have f0 : zAy ((bs s).data.toList.getD ((i : Int)).toNat 0) = false:=by rw [Int.toNat_natCast,hgd]; exact h0
 have hle:=zBs wrdU (s.drop (i + 1))
 rw [List.length_drop] at hle
 have f1 : (zx (bs s) ((i : Int)).toNat == 46) = false:=(q 46 (by omega)).trans (by simpa using h46)
 have k45 : s[i] = 45 -> ((zx (bs s) ((i : Int)).toNat == 45) == false) = true -> False:=fun h h2 => by
  have e : (zx (bs s) ((i : Int)).toNat == 45) = true:=(q 45 (by omega)).trans (by rw [h]; rfl)
  rw [e] at h2; cases h2
 have kn45 : s[i] ≠ 45 -> ((zx (bs s) ((i : Int)).toNat == 45) == false) = false -> False:=fun h h2 => by
  have e : (zx (bs s) ((i : Int)).toNat == 45) = false:=(q 45 (by omega)).trans (by simpa using h)
  rw [e] at h2; cases h2
 have kge : 48 <= s[i].toNat -> (decide (zx (bs s) ((i : Int)).toNat >= 48) == true) = false -> False:=fun h h2 => by
  rw [hbt,decide_eq_true (show ((s[i].toNat : Nat) : Int) >= 48 by omega)] at h2; cases h2
 have kng : s[i].toNat < 48 -> (decide (zx (bs s) ((i : Int)).toNat >= 48) == true) = true -> False:=fun h h2 => by
  rw [hbt,decide_eq_false (show ¬ ((s[i].toNat : Nat) : Int) >= 48 by omega)] at h2; cases h2
 have hlt:=zBq ((bs s).data.toList.getD ((i : Int)).toNat 0)
 have f5 : wrdU ((bs s).data.toList.getD ((i : Int)).toNat 0) = true:=by rw [Int.toNat_natCast,hgd]; exact hw
 have hsp:=zGs s i (by omega) (by omega)
 have hse : i + spanN wrdU (s.drop i) = i + 1 + spanN wrdU (s.drop (i + 1)):=by rw [hdr,spanN,if_pos hw]; omega
 rw [hse] at hsp
 have f6 : decide (((i + 1 + spanN wrdU (s.drop (i + 1)) : Nat) : Int) - (i : Int) > 64) = true:=decide_eq_true (by omega)
 rcases hr with hr | hr
 . have f2 : (zx (bs s) ((i : Int)).toNat == 45) = false:=(q 45 (by omega)).trans (by simpa using h45)
   have k1:=kn45 h45
   have k2:=kng hr
   have f3 : decide (zx (bs s) ((i : Int)).toNat >= 48) = false:=by rw [hbt]; exact decide_eq_false (by omega)
   refine zX 116 Tryz.func74 rfl rfl rfl rfl ?_
   intro s0 w he
   repeat' (first
|apply zu rfl rfl rfl
 . conv => lhs; whnf
 . first | rfl | assumption
 . conv => lhs; whnf
 . first | exact bF1 ‹_› | exact bF2 ‹_› | rfl
|apply zW
 . conv => lhs; whnf
 . assumption
|apply zS
 . conv => lhs; whnf
 . assumption
|exact (k1 ‹_›).elim
|exact (k2 ‹_›).elim
|refine zA ?_
|refine zI ?_
|refine zb ?_
|apply aw_1
 conv => whnf
 refine ⟨?_,trivial⟩
|apply ze rfl rfl
 . conv => lhs; whnf
 . conv => lhs; whnf
 . first | exact bF1 ‹_› | exact bF2 ‹_›
|apply s_1
 conv => whnf; arg 1; arg 4; arg 3; whnf
 refine ⟨?_,?_⟩
|apply zd rfl
 . conv => lhs; whnf
 . conv => lhs; whnf
 . first | exact hsg | exact hlt | exact hsp
|apply zr rfl rfl rfl
 . conv => lhs; whnf
 . conv => lhs; whnf; arg 1; whnf
 . conv => lhs; whnf; arg 1; whnf
 . exact ⟨by kernel_rfl,by kernel_rfl⟩
 . rfl
|apply zM rfl
 . conv => lhs; whnf
 . conv => lhs; whnf
 . first | rfl | assumption
 . conv => lhs; whnf; arg 2; whnf
|apply zl rfl
 . conv => lhs; whnf
 . conv => lhs; whnf
 . first | rfl | assumption
|apply zP rfl
 . conv => lhs; whnf
 . conv => lhs; whnf
 . conv => lhs; whnf; arg 2; whnf
|refine zK ?_
|refine zC ?_
|refine zH ?_
|exact trivial
|intro hg)
   . exact ⟨_,_,_,rfl,rfl,rfl,rfl⟩
   all_goals first
    | exact zo (by omega)
    | exact ⟨by kernel_rfl,by omega,by omega⟩
    | exact ⟨by kernel_rfl,by omega,by omega,by omega⟩
    | (rw [hbt]; exact zAj _)
    | exact (show Tryz.prog.underlying _ = some TypeDesc.string by kernel_rfl)
    | skip
 . have f2 : (zx (bs s) ((i : Int)).toNat == 45) = false:=(q 45 (by omega)).trans (by simpa using h45)
   have k1:=kn45 h45
   have k2:=kge (by omega)
   have f3 : decide (zx (bs s) ((i : Int)).toNat >= 48) = true:=by rw [hbt]; exact decide_eq_true (by omega)
   have f4 : decide (zx (bs s) ((i : Int)).toNat <= 57) = false:=by rw [hbt]; exact decide_eq_false (by omega)
   refine zX 116 Tryz.func74 rfl rfl rfl rfl ?_
   intro s0 w he
   repeat' (first
|apply zq rfl rfl rfl
 . conv => lhs; whnf
 . first | rfl | assumption
 . conv => lhs; whnf
 . first | exact bT1 ‹_› | exact bT2 ‹_› | rfl
|apply zW
 . conv => lhs; whnf
 . assumption
|apply zS
 . conv => lhs; whnf
 . assumption
|exact (k1 ‹_›).elim
|exact (k2 ‹_›).elim
|refine zA ?_
|refine zI ?_
|refine zb ?_
|apply aw_1
 conv => whnf
 refine ⟨?_,trivial⟩
|apply ze rfl rfl
 . conv => lhs; whnf
 . conv => lhs; whnf
 . first | exact bF1 ‹_› | exact bF2 ‹_›
|apply s_1
 conv => whnf; arg 1; arg 4; arg 3; whnf
 refine ⟨?_,?_⟩
|apply zd rfl
 . conv => lhs; whnf
 . conv => lhs; whnf
 . first | exact hsg | exact hlt | exact hsp
|apply zr rfl rfl rfl
 . conv => lhs; whnf
 . conv => lhs; whnf; arg 1; whnf
 . conv => lhs; whnf; arg 1; whnf
 . exact ⟨by kernel_rfl,by kernel_rfl⟩
 . rfl
|apply zM rfl
 . conv => lhs; whnf
 . conv => lhs; whnf
 . first | rfl | assumption
 . conv => lhs; whnf; arg 2; whnf
|apply zP rfl
 . conv => lhs; whnf
 . conv => lhs; whnf
 . conv => lhs; whnf; arg 2; whnf
|refine zK ?_
|refine zC ?_
|refine zH ?_
|exact trivial
|intro hg)
   . exact ⟨_,_,_,rfl,rfl,rfl,rfl⟩
   all_goals first
    | exact zo (by omega)
    | exact ⟨by kernel_rfl,by omega,by omega⟩
    | exact ⟨by kernel_rfl,by omega,by omega,by omega⟩
    | (rw [hbt]; exact zAj _)
    | exact (show Tryz.prog.underlying _ = some TypeDesc.string by kernel_rfl)
    | skip
theorem read_none (h0 : zAy s[i] = false) (h46 : s[i] ≠ 46) (h45 : s[i] ≠ 45) (hr : s[i].toNat < 48 \/ 57 < s[i].toNat) (hw : wrdU s[i] = false) (h34 : s[i] ≠ 34) : AC EN5 Tryz.prog 74 [.c (.string (bs s)),.c (.int .i64 (i : Int))] failR:=by
 have hz:=zAL s
 have hbt:=zBy hi
 have hgd:=zDh hi
 have hdr : s.drop i = s[i] :: s.drop (i + 1):=List.drop_eq_getElem_cons hi
 have q : ∀ n : Nat,n < 256 -> (zx (bs s) ((i : Int)).toNat == (n : Int)) = (s[i] == UInt8.ofNat n):=fun n hn => by rw [hbt]; exact zD0 _ n hn
 have hsg:=zAW ((bs s).data.toList.getD ((i : Int)).toNat 0)
 have f0 : zAy ((bs s).data.toList.getD ((i : Int)).toNat 0) = false:=by rw [Int.toNat_natCast,hgd]; exact h0
 have hle:=zBs wrdU (s.drop (i + 1))
 rw [List.length_drop] at hle
 have f1 : (zx (bs s) ((i : Int)).toNat == 46) = false:=(q 46 (by omega)).trans (by simpa using h46)
 have k45 : s[i] = 45 -> ((zx (bs s) ((i : Int)).toNat == 45) == false) = true -> False:=fun h h2 => by
  have e : (zx (bs s) ((i : Int)).toNat == 45) = true:=(q 45 (by omega)).trans (by rw [h]; rfl)
  rw [e] at h2; cases h2
 have kn45 : s[i] ≠ 45 -> ((zx (bs s) ((i : Int)).toNat == 45) == false) = false -> False:=fun h h2 => by
  have e : (zx (bs s) ((i : Int)).toNat == 45) = false:=(q 45 (by omega)).trans (by simpa using h)
  rw [e] at h2; cases h2
 have kge : 48 <= s[i].toNat -> (decide (zx (bs s) ((i : Int)).toNat >= 48) == true) = false -> False:=fun h h2 => by
  rw [hbt,decide_eq_true (show ((s[i].toNat : Nat) : Int) >= 48 by omega)] at h2; cases h2
 have kng : s[i].toNat < 48 -> (decide (zx (bs s) ((i : Int)).toNat >= 48) == true) = true -> False:=fun h h2 => by
  rw [hbt,decide_eq_false (show ¬ ((s[i].toNat : Nat) : Int) >= 48 by omega)] at h2; cases h2
 have hlt:=zBq ((bs s).data.toList.getD ((i : Int)).toNat 0)
 have f5 : wrdU ((bs s).data.toList.getD ((i : Int)).toNat 0) = false:=by rw [Int.toNat_natCast,hgd]; exact hw
 have f6 : (zx (bs s) ((i : Int)).toNat == 34) = false:=(q 34 (by omega)).trans (by simpa using h34)
 rcases hr with hr | hr
 . have f2 : (zx (bs s) ((i : Int)).toNat == 45) = false:=(q 45 (by omega)).trans (by simpa using h45)
   have k1:=kn45 h45
   have k2:=kng hr
   have f3 : decide (zx (bs s) ((i : Int)).toNat >= 48) = false:=by rw [hbt]; exact decide_eq_false (by omega)
   refine zX 116 Tryz.func74 rfl rfl rfl rfl ?_
   intro s0 w he
   repeat' (first
|apply zu rfl rfl rfl
 . conv => lhs; whnf
 . first | rfl | assumption
 . conv => lhs; whnf
 . first | exact bF1 ‹_› | exact bF2 ‹_› | rfl
|apply zS
 . conv => lhs; whnf
 . assumption
|exact (k1 ‹_›).elim
|exact (k2 ‹_›).elim
|refine zA ?_
|refine zI ?_
|refine zb ?_
|refine zU ?_
|apply aw_1
 conv => whnf
 refine ⟨?_,trivial⟩
|apply ze rfl rfl
 . conv => lhs; whnf
 . conv => lhs; whnf
 . first | exact bF1 ‹_› | exact bF2 ‹_›
|apply s_1
 conv => whnf; arg 1; arg 4; arg 3; whnf
 refine ⟨?_,?_⟩
|apply zd rfl
 . conv => lhs; whnf
 . conv => lhs; whnf
 . first | exact hsg | exact hlt
|apply zr rfl rfl rfl
 . conv => lhs; whnf
 . conv => lhs; whnf; arg 1; whnf
 . conv => lhs; whnf; arg 1; whnf
 . exact ⟨by kernel_rfl,by kernel_rfl⟩
 . rfl
|apply zM rfl
 . conv => lhs; whnf
 . conv => lhs; whnf
 . first | rfl | assumption
 . conv => lhs; whnf; arg 2; whnf
|apply zl rfl
 . conv => lhs; whnf
 . conv => lhs; whnf
 . first | rfl | assumption
|apply zP rfl
 . conv => lhs; whnf
 . conv => lhs; whnf
 . conv => lhs; whnf; arg 2; whnf
|refine zH ?_
|exact trivial
|intro hg)
   . exact ⟨_,_,_,rfl,rfl,rfl,rfl⟩
   all_goals first
    | exact zo (by omega)
    | exact ⟨by kernel_rfl,by omega,by omega⟩
    | exact ⟨by kernel_rfl,by omega,by omega,by omega⟩
    | (rw [hbt]; exact zAj _)
    | exact (show Tryz.prog.underlying _ = some TypeDesc.string by kernel_rfl)
    | skip
 . have f2 : (zx (bs s) ((i : Int)).toNat == 45) = false:=(q 45 (by omega)).trans (by simpa using h45)
   have k1:=kn45 h45
   have k2:=kge (by omega)
   have f3 : decide (zx (bs s) ((i : Int)).toNat >= 48) = true:=by rw [hbt]; exact decide_eq_true (by omega)
   have f4 : decide (zx (bs s) ((i : Int)).toNat <= 57) = false:=by rw [hbt]; exact decide_eq_false (by omega)
   refine zX 116 Tryz.func74 rfl rfl rfl rfl ?_
   intro s0 w he
   repeat' (first
|apply zq rfl rfl rfl
 . conv => lhs; whnf
 . first | rfl | assumption
 . conv => lhs; whnf
 . first | exact bT1 ‹_› | exact bT2 ‹_› | rfl
|apply zS
 . conv => lhs; whnf
 . assumption
|exact (k1 ‹_›).elim
|exact (k2 ‹_›).elim
|refine zA ?_
|refine zI ?_
|refine zb ?_
|refine zU ?_
|apply aw_1
 conv => whnf
 refine ⟨?_,trivial⟩
|apply ze rfl rfl
 . conv => lhs; whnf
 . conv => lhs; whnf
 . first | exact bF1 ‹_› | exact bF2 ‹_›
|apply s_1
 conv => whnf; arg 1; arg 4; arg 3; whnf
 refine ⟨?_,?_⟩
|apply zd rfl
 . conv => lhs; whnf
 . conv => lhs; whnf
 . first | exact hsg | exact hlt
|apply zr rfl rfl rfl
 . conv => lhs; whnf
 . conv => lhs; whnf; arg 1; whnf
 . conv => lhs; whnf; arg 1; whnf
 . exact ⟨by kernel_rfl,by kernel_rfl⟩
 . rfl
|apply zM rfl
 . conv => lhs; whnf
 . conv => lhs; whnf
 . first | rfl | assumption
 . conv => lhs; whnf; arg 2; whnf
|apply zP rfl
 . conv => lhs; whnf
 . conv => lhs; whnf
 . conv => lhs; whnf; arg 2; whnf
|refine zH ?_
|exact trivial
|intro hg)
   . exact ⟨_,_,_,rfl,rfl,rfl,rfl⟩
   all_goals first
    | exact zo (by omega)
    | exact ⟨by kernel_rfl,by omega,by omega⟩
    | exact ⟨by kernel_rfl,by omega,by omega,by omega⟩
    | (rw [hbt]; exact zAj _)
    | exact (show Tryz.prog.underlying _ = some TypeDesc.string by kernel_rfl)
    | skip
end
end Go.Proofs.YtdlnnlglmifceaaGreatDoor
namespace Go.Proofs.YtdlnnlglmifceaaGreatDoor
open Go.RowKit
set_option linter.unusedSectionVars false
attribute [local irreducible] wpList Calls Code.wp AW AWo OpOk seqK zAP zAR loopK endK AC zy Yld Sub
attribute [local irreducible] ACB ACX ACE absLexG YldG
section
variable {s : List UInt8} {i : Nat} (hi : i < s.length) (hs : s.length <= 70000)
include hi hs
theorem read_open (h : s[i] = 34) (hn : litN (s.drop (i + 1)) = none) : AC EN5 Tryz.prog 74 [.c (.string (bs s)),.c (.int .i64 (i : Int))] failR:=by
 have hz:=zAL s
 have hbt:=zBy hi
 have hgd:=zDh hi
 have hdr : s.drop i = s[i] :: s.drop (i + 1):=List.drop_eq_getElem_cons hi
 have q : ∀ n : Nat,n < 256 -> (zx (bs s) ((i : Int)).toNat == (n : Int)) = (s[i] == UInt8.ofNat n):=fun n hn => by rw [hbt]; exact zD0 _ n hn
 have hsg:=zAW ((bs s).data.toList.getD ((i : Int)).toNat 0)
 have f0 : zAy ((bs s).data.toList.getD ((i : Int)).toNat 0) = false:=by rw [Int.toNat_natCast,hgd,h]; rfl
 have f1 : (zx (bs s) ((i : Int)).toNat == 46) = false:=(q 46 (by omega)).trans (by rw [h]; rfl)
 have f2 : (zx (bs s) ((i : Int)).toNat == 45) = false:=(q 45 (by omega)).trans (by rw [h]; rfl)
 have f3 : decide (zx (bs s) ((i : Int)).toNat >= 48) = false:=by rw [hbt,h]; rfl
 have k1 : ((zx (bs s) ((i : Int)).toNat == 45) == false) = false -> False:=fun h2 => by rw [f2] at h2; cases h2
 have k2 : (decide (zx (bs s) ((i : Int)).toNat >= 48) == true) = true -> False:=fun h2 => by rw [f3] at h2; cases h2
 have hlt:=zBq ((bs s).data.toList.getD ((i : Int)).toNat 0)
 have f5 : wrdU ((bs s).data.toList.getD ((i : Int)).toNat 0) = false:=by rw [Int.toNat_natCast,hgd,h]; rfl
 have f6 : (zx (bs s) ((i : Int)).toNat == 34) = true:=(q 34 (by omega)).trans (by rw [h]; rfl)
 have hll:=zE1 s i hi (by omega)
 have hv : litV s i = -1:=by unfold litV; rw [hn]
 rw [hv] at hll
 refine zX 116 Tryz.func74 rfl rfl rfl rfl ?_
 intro s0 w he
 repeat' (first
|apply s_wanted_pick_t rfl rfl rfl
 . conv => lhs; whnf
 . first | rfl | assumption
 . conv => lhs; whnf
 . first | exact bT1 ‹_› | exact bT2 ‹_› | rfl
|apply zq rfl rfl rfl
 . conv => lhs; whnf
 . first | rfl | assumption
 . conv => lhs; whnf
 . first | exact bT1 ‹_› | exact bT2 ‹_› | rfl
|apply s_wanted_pick_f rfl rfl rfl
 . conv => lhs; whnf
 . first | rfl | assumption
 . conv => lhs; whnf
 . first | exact bF1 ‹_› | exact bF2 ‹_› | rfl
|apply zu rfl rfl rfl
 . conv => lhs; whnf
 . first | rfl | assumption
 . conv => lhs; whnf
 . first | exact bF1 ‹_› | exact bF2 ‹_› | rfl
|apply zW
 . conv => lhs; whnf
 . assumption
|apply zS
 . conv => lhs; whnf
 . assumption
|exact (k1 ‹_›).elim
|exact (k2 ‹_›).elim
|refine zi ?_
|refine zf ?_
|refine zAH ?_
|refine zA ?_
|refine zI ?_
|refine zb ?_
|refine zU ?_
|refine za ?_
|apply aw_1
 conv => whnf
 refine ⟨?_,trivial⟩
|apply zg rfl rfl
 . conv => lhs; whnf
 . conv => lhs; whnf
 . first | exact bT1 ‹_› | exact bT2 ‹_›
|apply ze rfl rfl
 . conv => lhs; whnf
 . conv => lhs; whnf
 . first | exact bF1 ‹_› | exact bF2 ‹_›
|apply s_1
 conv => whnf; arg 1; arg 4; arg 3; whnf
 refine ⟨?_,?_⟩
|apply zt rfl
 . conv => lhs; whnf
 . conv => lhs; whnf; arg 2; whnf
|apply zd rfl
 . conv => lhs; whnf
 . conv => lhs; whnf
 . first | exact hsg | exact hlt | exact hll
|apply zAA rfl rfl rfl rfl
 . conv => lhs; whnf; arg 1; whnf
 . rfl
|apply zr rfl rfl rfl
 . conv => lhs; whnf
 . conv => lhs; whnf; arg 1; whnf
 . conv => lhs; whnf; arg 1; whnf
 . exact ⟨by kernel_rfl,by kernel_rfl⟩
 . rfl
|apply zM rfl
 . conv => lhs; whnf
 . conv => lhs; whnf
 . first | rfl | assumption
 . conv => lhs; whnf; arg 2; whnf
|apply zR rfl
 . conv => lhs; whnf
 . conv => lhs; whnf
 . first | rfl | assumption
 . conv => lhs; whnf
 . first | exact hsg | exact hlt | exact hll
|apply zl rfl
 . conv => lhs; whnf
 . conv => lhs; whnf
 . first | rfl | assumption
|apply zAI rfl
 . conv => lhs; whnf
 . rfl
 . rfl
|apply zP rfl
 . conv => lhs; whnf
 . conv => lhs; whnf
 . conv => lhs; whnf; arg 2; whnf
|apply zp rfl
 . conv => lhs; whnf
 . conv => lhs; whnf
 . conv => lhs; whnf
 . first | exact hsg | exact hlt | exact hll
|apply zn rfl
 . conv => lhs; whnf
 . conv => lhs; whnf
 . conv => lhs; whnf; arg 2; whnf
|apply zk rfl
 . conv => lhs; whnf
 . conv => lhs; whnf
 . conv => lhs; whnf
 . first | exact hsg | exact hlt | exact hll
|apply zN
 . conv => lhs; whnf; arg 1; arg 1; whnf
|apply zO
 . conv => lhs; whnf; arg 1; arg 1; whnf
|refine zT (by conv => lhs; whnf) ?_ ?_ <;> intro hb
|refine zj ?_
|refine zZ ?_
|refine zG ?_
|refine zK ?_
|refine zC ?_
|refine zB rfl ?_
|refine zE rfl ?_
|refine zF ?_
|refine zJ ?_
|refine zD ?_
|refine zL ?_
|refine z6 ?_
|refine zH ?_
|refine ⟨_,by conv => lhs; whnf; arg 2; whnf,?_⟩; conv => rhs; whnf
|exact trivial
|intro hg)
 . exact ⟨_,_,_,rfl,rfl,rfl,rfl⟩
 all_goals first
  | exact zo (by omega)
  | exact ⟨by kernel_rfl,by omega,by omega⟩
  | exact ⟨by kernel_rfl,by omega,by omega,by omega⟩
  | (rw [hbt]; exact zAj _)
  | exact (show Tryz.prog.underlying _ = some TypeDesc.string by kernel_rfl)
  | skip
theorem read_text (h : s[i] = 34) (n : Nat) (hn : litN (s.drop (i + 1)) = some n) : AC EN5 Tryz.prog 74 [.c (.string (bs s)),.c (.int .i64 (i : Int))] (tupR ⟨4,(unquoteU (s[i] :: (s.drop (i + 1)).take n)).getD [],i⟩ (i + 1 + n) (uqE (unquoteU (s[i] :: (s.drop (i + 1)).take n)))):=by
 have hz:=zAL s
 have hbt:=zBy hi
 have hgd:=zDh hi
 have hdr : s.drop i = s[i] :: s.drop (i + 1):=List.drop_eq_getElem_cons hi
 have q : ∀ n : Nat,n < 256 -> (zx (bs s) ((i : Int)).toNat == (n : Int)) = (s[i] == UInt8.ofNat n):=fun n hn => by rw [hbt]; exact zD0 _ n hn
 have hsg:=zAW ((bs s).data.toList.getD ((i : Int)).toNat 0)
 have f0 : zAy ((bs s).data.toList.getD ((i : Int)).toNat 0) = false:=by rw [Int.toNat_natCast,hgd,h]; rfl
 have f1 : (zx (bs s) ((i : Int)).toNat == 46) = false:=(q 46 (by omega)).trans (by rw [h]; rfl)
 have f2 : (zx (bs s) ((i : Int)).toNat == 45) = false:=(q 45 (by omega)).trans (by rw [h]; rfl)
 have f3 : decide (zx (bs s) ((i : Int)).toNat >= 48) = false:=by rw [hbt,h]; rfl
 have k1 : ((zx (bs s) ((i : Int)).toNat == 45) == false) = false -> False:=fun h2 => by rw [f2] at h2; cases h2
 have k2 : (decide (zx (bs s) ((i : Int)).toNat >= 48) == true) = true -> False:=fun h2 => by rw [f3] at h2; cases h2
 have hlt:=zBq ((bs s).data.toList.getD ((i : Int)).toNat 0)
 have f5 : wrdU ((bs s).data.toList.getD ((i : Int)).toNat 0) = false:=by rw [Int.toNat_natCast,hgd,h]; rfl
 have f6 : (zx (bs s) ((i : Int)).toNat == 34) = true:=(q 34 (by omega)).trans (by rw [h]; rfl)
 have hll:=zE1 s i hi (by omega)
 have hln:=zFg _ n hn
 rw [List.length_drop] at hln
 have hv : litV s i = ((i + 1 + n : Nat) : Int):=by unfold litV; rw [hn]
 rw [hv] at hll
 have f7 : decide (((i + 1 + n : Nat) : Int) < 0) = false:=decide_eq_false (by omega)
 have hx : (bs s).extract ((i : Int)).toNat (((i + 1 + n : Nat) : Int)).toNat = bs (s[i] :: (s.drop (i + 1)).take n):=by
  rw [Int.toNat_natCast,Int.toNat_natCast,zIA s (by omega) (by omega),hdr,show i + 1 + n - i = n + 1 by omega,List.take_succ_cons]
 have hsz : ((bs s).extract ((i : Int)).toNat (((i + 1 + n : Nat) : Int)).toNat).size <= 100000:=by rw [ByteArray.size_extract]; omega
 have huq:=zGo _ hsz
 unfold uqVV at huq
 have htx : tx ((bs s).extract ((i : Int)).toNat (((i + 1 + n : Nat) : Int)).toNat) = s[i] :: (s.drop (i + 1)).take n:=by rw [hx]; exact zA2 _
 rw [htx] at huq
 refine zX 116 Tryz.func74 rfl rfl rfl rfl ?_
 intro s0 w he
 repeat' (first
|apply s_wanted_pick_t rfl rfl rfl
 . conv => lhs; whnf
 . first | rfl | assumption
 . conv => lhs; whnf
 . first | exact bT1 ‹_› | exact bT2 ‹_› | rfl
|apply zq rfl rfl rfl
 . conv => lhs; whnf
 . first | rfl | assumption
 . conv => lhs; whnf
 . first | exact bT1 ‹_› | exact bT2 ‹_› | rfl
|apply s_wanted_pick_f rfl rfl rfl
 . conv => lhs; whnf
 . first | rfl | assumption
 . conv => lhs; whnf
 . first | exact bF1 ‹_› | exact bF2 ‹_› | rfl
|apply zu rfl rfl rfl
 . conv => lhs; whnf
 . first | rfl | assumption
 . conv => lhs; whnf
 . first | exact bF1 ‹_› | exact bF2 ‹_› | rfl
|apply zW
 . conv => lhs; whnf
 . assumption
|apply zS
 . conv => lhs; whnf
 . assumption
|exact (k1 ‹_›).elim
|exact (k2 ‹_›).elim
|refine zi ?_
|refine zf ?_
|refine zAH ?_
|refine zA ?_
|refine zI ?_
|refine zb ?_
|refine zU ?_
|refine za ?_
|apply aw_1
 conv => whnf
 refine ⟨?_,trivial⟩
|apply zg rfl rfl
 . conv => lhs; whnf
 . conv => lhs; whnf
 . first | exact bT1 ‹_› | exact bT2 ‹_›
|apply ze rfl rfl
 . conv => lhs; whnf
 . conv => lhs; whnf
 . first | exact bF1 ‹_› | exact bF2 ‹_›
|apply s_1
 conv => whnf; arg 1; arg 4; arg 3; whnf
 refine ⟨?_,?_⟩
|apply zt rfl
 . conv => lhs; whnf
 . conv => lhs; whnf; arg 2; whnf
|apply zd rfl
 . conv => lhs; whnf
 . conv => lhs; whnf
 . first | exact hsg | exact hlt | exact hll | exact huq
|apply zAA rfl rfl rfl rfl
 . conv => lhs; whnf; arg 1; whnf
 . rfl
|apply zr rfl rfl rfl
 . conv => lhs; whnf
 . conv => lhs; whnf; arg 1; whnf
 . conv => lhs; whnf; arg 1; whnf
 . exact ⟨by kernel_rfl,by kernel_rfl⟩
 . rfl
|apply zM rfl
 . conv => lhs; whnf
 . conv => lhs; whnf
 . first | rfl | assumption
 . conv => lhs; whnf; arg 2; whnf
|apply zR rfl
 . conv => lhs; whnf
 . conv => lhs; whnf
 . first | rfl | assumption
 . conv => lhs; whnf
 . first | exact hsg | exact hlt | exact hll | exact huq
|apply zl rfl
 . conv => lhs; whnf
 . conv => lhs; whnf
 . first | rfl | assumption
|apply zAI rfl
 . conv => lhs; whnf
 . rfl
 . rfl
|apply zP rfl
 . conv => lhs; whnf
 . conv => lhs; whnf
 . conv => lhs; whnf; arg 2; whnf
|apply zp rfl
 . conv => lhs; whnf
 . conv => lhs; whnf
 . conv => lhs; whnf
 . first | exact hsg | exact hlt | exact hll | exact huq
|apply zn rfl
 . conv => lhs; whnf
 . conv => lhs; whnf
 . conv => lhs; whnf; arg 2; whnf
|apply zk rfl
 . conv => lhs; whnf
 . conv => lhs; whnf
 . conv => lhs; whnf
 . first | exact hsg | exact hlt | exact hll | exact huq
|apply zN
 . conv => lhs; whnf; arg 1; arg 1; whnf
|apply zO
 . conv => lhs; whnf; arg 1; arg 1; whnf
|refine zT (by conv => lhs; whnf) ?_ ?_ <;> intro hb
|refine zj ?_
|refine zZ ?_
|refine zG ?_
|refine zK ?_
|refine zC ?_
|refine zB rfl ?_
|refine zE rfl ?_
|refine zF ?_
|refine zJ ?_
|refine zD ?_
|refine zL ?_
|refine z6 ?_
|refine zH ?_
|refine ⟨_,by conv => lhs; whnf; arg 2; whnf,?_⟩; conv => rhs; whnf
|exact trivial
|intro hg)
 . exact ⟨_,_,_,rfl,rfl,rfl,rfl⟩
 all_goals first
  | exact zo (by omega)
  | exact ⟨by kernel_rfl,by omega,by omega⟩
  | exact ⟨by kernel_rfl,by omega,by omega,by omega⟩
  | (rw [hbt]; exact zAj _)
  | exact (show Tryz.prog.underlying _ = some TypeDesc.string by kernel_rfl)
  | skip
theorem read_ac : AC EN5 Tryz.prog 74 [.c (.string (bs s)),.c (.int .i64 (i : Int))] (readV (s.drop i) i):=by
 have hdr : s.drop i = s[i] :: s.drop (i + 1):=List.drop_eq_getElem_cons hi
 rw [hdr]
 unfold readV
 simp only []
 by_cases h0 : zAy s[i] = true
 . rw [if_pos h0]; exact read_sign hi hs h0
 rw [if_neg h0]
 have h0 : zAy s[i] = false:=by simpa using h0
 by_cases h46 : s[i] = 46
 . rw [if_pos (by simp [h46])]
   have hp : Lib.hasPrefix (s.drop i) [46,46,46] = decide ((s.drop (i + 1)).take 2 = [46,46]):=by
    rw [hdr,h46]
    show List.isPrefixOf [46,46] (s.drop (i + 1)) = _
    rw [Bool.eq_iff_iff]
    simp only [List.isPrefixOf_iff_prefix,decide_eq_true_eq,List.prefix_iff_eq_take]
    exact eq_comm
   have:=read_dots hi hs h0 h46 _ hp (fun hd => by
    have:=congrArg List.length (of_decide_eq_true hd)
    rw [List.length_take,List.length_drop] at this
    simp at this; omega)
   simpa using this
 rw [if_neg (by simpa using h46)]
 by_cases hd : (s[i] == 45 || digU s[i]) = true
 . rw [if_pos hd]
   refine read_num hi hs h0 h46 ?_
   by_cases h45 : s[i] = 45
   . exact .inl h45
   . exact .inr ⟨h45,by simpa [h45] using hd⟩
 rw [if_neg hd]
 have hd : (s[i] == 45 || digU s[i]) = false:=by simpa using hd
 rw [Bool.or_eq_false_iff] at hd
 have h45 : s[i] ≠ 45:=by simpa using hd.1
 have hr : s[i].toNat < 48 \/ 57 < s[i].toNat:=by
  have:=hd.2
  simp only [digU,decide_eq_false_iff_not] at this
  omega
 by_cases hw : wrdU s[i] = true
 . rw [if_pos hw]
   by_cases hl : spanN wrdU (s.drop (i + 1)) + 1 > 64
   . rw [if_pos hl]; exact read_long hi hs h0 h46 h45 hr hw (by omega)
   . rw [if_neg hl]; exact read_word hi hs h0 h46 h45 hr hw (by omega)
 rw [if_neg hw]
 have hw : wrdU s[i] = false:=by simpa using hw
 by_cases h34 : s[i] = 34
 . rw [if_pos (by simp [h34])]
   cases hn : litN (s.drop (i + 1)) with
   | none => exact read_open hi hs h34 hn
   | some n => exact read_text hi hs h34 n hn
 . rw [if_neg (by simpa using h34)]
   exact read_none hi hs h0 h46 h45 hr hw h34
end
theorem rd_split (c : UInt8) (r : List UInt8) (i : Nat) :
 (∀ k t n,readU (c :: r) = .ok (k,t,n) -> readV (c :: r) i = tupR ⟨k,t,i⟩ (i + n) 0) /\ (∀ e,readU (c :: r) = .error e -> e ≠ 0 /\ ∃ t k,readV (c :: r) i = tupR t k e):=by
 unfold readU readV
 simp only []
 have f3 : ∀ e : Int,(3 : Int) = e -> e ≠ 0 /\ ∃ t k,failR = tupR t k e:=fun e he => by subst he; exact ⟨by decide,_,_,rfl⟩
 by_cases h0 : zAy c = true
 . rw [if_pos h0,if_pos h0]
   exact ⟨fun k t n h => by cases h; rfl,fun e h => by cases h⟩
 rw [if_neg h0,if_neg h0]
 by_cases h46 : (c == 46) = true
 . rw [if_pos h46,if_pos h46]
   by_cases hp : r.take 2 = [46,46]
   . rw [if_pos hp,if_pos hp]
     exact ⟨fun k t n h => by cases h; rfl,fun e h => by cases h⟩
   . rw [if_neg hp,if_neg hp]
     exact ⟨fun k t n h => (by cases h),fun e h => by cases h; exact f3 _ rfl⟩
 rw [if_neg h46,if_neg h46]
 by_cases hd : (c == 45 || digU c) = true
 . rw [if_pos hd,if_pos hd]
   by_cases hn : nerU (numU (c :: r.take (spanN wrdU r))) = 0
   . rw [if_pos hn]
     refine ⟨fun k t n h => ?_,fun e h => by cases h⟩
     cases h
     rw [hn,show i + 1 + spanN wrdU r = i + (spanN wrdU r + 1) by omega]
   . rw [if_neg hn]
     exact ⟨fun k t n h => (by cases h),fun e h => by cases h; exact ⟨hn,_,_,rfl⟩⟩
 rw [if_neg hd,if_neg hd]
 have hd : (c == 45 || digU c) = false:=by simpa using hd
 rw [Bool.or_eq_false_iff] at hd
 have hwl : wrdU c = letU c:=by unfold wrdU; rw [hd.2,Bool.or_false]
 rw [hwl]
 by_cases hw : letU c = true
 . rw [if_pos hw,if_pos hw]
   by_cases hl : spanN wrdU r + 1 > 64
   . rw [if_pos hl,if_pos hl]
     exact ⟨fun k t n h => (by cases h),fun e h => by cases h; exact f3 _ rfl⟩
   . rw [if_neg hl,if_neg hl]
     refine ⟨fun k t n h => ?_,fun e h => by cases h⟩
     cases h
     rw [show i + 1 + spanN wrdU r = i + (spanN wrdU r + 1) by omega]
 rw [if_neg hw,if_neg hw]
 by_cases h34 : (c == 34) = true
 . rw [if_pos h34,if_pos h34]
   cases hn : litN r with
   | none => exact ⟨fun k t n h => (by cases h),fun e h => by cases h; exact f3 _ rfl⟩
   | some n =>
     dsimp only
     cases hu : unquoteU (c :: r.take n) with
     | none => exact ⟨fun k t n h => (by cases h),fun e h => by cases h; exact ⟨by decide,_,_,rfl⟩⟩
     | some t =>
       refine ⟨fun k t n h => ?_,fun e h => by cases h⟩
       cases h
       show tupR ⟨4,t,i⟩ (i + 1 + n) 0 = tupR ⟨4,t,i⟩ (i + (n + 1)) 0
       rw [show i + 1 + n = i + (n + 1) by omega]
 . rw [if_neg h34,if_neg h34]
   exact ⟨fun k t n h => (by cases h),fun e h => by cases h; exact f3 _ rfl⟩
theorem zBL : zAS Tryz.prog 92 = some (134,32):=by kernel_rfl
def scanG (f : Nat) (l : List UInt8) (k : Nat) : Except (Nat × Int) (List Tok):=
 match l with
 | [] => .ok [⟨5,[],k⟩]
 | c :: r => match zDd (c :: r) k with
   | .error e => .error (k,e)
   | .ok (t,n) => match scanF f ((c :: r).drop n) (k + n) with
     | .error e => .error e
     | .ok ts => .ok (t :: ts)
theorem scan_G (f : Nat) (l : List UInt8) (i : Nat) : scanF (f + 1) l i = scanG f (l.drop (skipM false l)) (i + skipM false l):=by
 have hle:=zBE false l
 rw [scanF]
 unfold scanG
 cases h : l.drop (skipM false l) with
 | nil =>
   have:=congrArg List.length h
   rw [List.length_drop] at this
   have e : skipM false l = l.length:=by simp at this; omega
   rw [e]
 | cons c r => rfl
def ahead (acc : List Tok) : Except (Nat × Int) (List Tok) -> Except (Nat × Int) (List Tok)
 | .error e => .error e
 | .ok ts => .ok (acc ++ ts)
noncomputable def scanW : Except (Nat × Int) (List Tok) -> V
 | .ok ts => .tup [.sl 134 (ts.map tokD),.c (.int .i64 0),.c (.int .i64 0)]
 | .error x => .tup [.c (.slice none 0 0),.c (.int .i64 (x.1 : Int)),.c (.int .i64 x.2)]
theorem zEv (r : Except (Nat × Int) (List Tok)) : (scanW r).pure = true:=by cases r <;> rfl
noncomputable def HSn (s : List UInt8) (k : Nat) (acc : List Tok) : Vst 44:=
 stS 44 [(0,.c (.string (bs s))),(5,.own 5 134 (acc.map tokD)),(6,.c (.int .i64 (k : Int)))] [(5,.tok 134 (acc.map tokD).length)]
theorem scan_big (s : List UInt8) (hs : 65536 < s.length) (hs2 : s.length <= 4000000000) : AC EN5 Tryz.prog 40 [.c (.string (bs s))] (scanW (zCb s)):=by
 have hz:=zAL s
 have e : zCb s = .error (65536,4):=by unfold zCb; rw [if_pos hs]
 have f0 : decide (((bs s).size : Int) > 65536) = true:=decide_eq_true (by omega)
 rw [e]
 refine zX 44 Tryz.func40 rfl rfl rfl (zEv _) ?_
 intro s0 w he
 repeat' (first
|apply zW
 . conv => lhs; whnf
 . assumption
|apply zS
 . conv => lhs; whnf
 . assumption
|refine zi ?_
|refine zf ?_
|refine zAH ?_
|refine zA ?_
|refine zI ?_
|refine zb ?_
|refine zU ?_
|refine za ?_
|apply aw_1
 conv => whnf
 refine ⟨?_,trivial⟩
|apply s_1
 conv => whnf; arg 1; arg 4; arg 3; whnf
 refine ⟨?_,?_⟩
|apply zt rfl
 . conv => lhs; whnf
 . conv => lhs; whnf; arg 2; whnf
|apply zd rfl
 . conv => lhs; whnf
 . conv => lhs; whnf
 . first | fail
|apply zAA rfl rfl rfl rfl
 . conv => lhs; whnf; arg 1; whnf
 . rfl
|apply zr rfl rfl rfl
 . conv => lhs; whnf
 . conv => lhs; whnf; arg 1; whnf
 . conv => lhs; whnf; arg 1; whnf
 . exact ⟨by kernel_rfl,by kernel_rfl⟩
 . rfl
|apply zBK rfl rfl
 . conv => lhs; whnf
 . first | (conv => lhs; whnf; arg 1; whnf)
 . first | exact fun _ => rfl | (intro _; kernel_rfl)
 . conv => lhs; whnf
 . conv => lhs; whnf; arg 1; whnf
 . conv => lhs; whnf
|apply zAJ rfl rfl rfl rfl
 . first | (conv => lhs; whnf; arg 1; whnf)
 . first | exact fun _ => rfl | (intro _; kernel_rfl)
 . conv => lhs; whnf
 . conv => lhs; whnf
|apply zAr rfl rfl
 . conv => lhs; whnf
 . first | (conv => lhs; whnf; arg 1; whnf)
|apply zAn rfl rfl
 . conv => lhs; whnf
 . first | (conv => lhs; whnf; arg 1; whnf)
 . conv => lhs; whnf; arg 1; whnf
 . rfl
 . rfl
|apply zAc rfl rfl
 . conv => lhs; whnf
 . first | (conv => lhs; whnf; arg 1; whnf)
 . first | exact fun _ => rfl | (intro _; kernel_rfl)
 . conv => lhs; whnf
 . conv => lhs; whnf
|apply zN
 . conv => lhs; whnf; arg 1; arg 1; whnf
|apply zO
 . conv => lhs; whnf; arg 1; arg 1; whnf
|refine zT (by conv => lhs; whnf) ?_ ?_ <;> intro hb
|refine zj ?_
|refine zZ ?_
|refine zG ?_
|refine zK ?_
|refine zC ?_
|refine zB rfl ?_
|refine zE rfl ?_
|refine zF ?_
|refine zJ ?_
|refine zD ?_
|refine zL ?_
|refine z6 ?_
|refine zH ?_
|refine ⟨_,by conv => lhs; whnf; arg 2; whnf,?_⟩; conv => rhs; whnf
|exact trivial
|intro hg)
 . exact ⟨_,_,_,rfl,rfl,rfl,rfl⟩
 all_goals exact (show Tryz.prog.underlying _ = some TypeDesc.string by kernel_rfl)
theorem scan_ac (s : List UInt8) (hs : s.length <= 4000000000) : AC EN5 Tryz.prog 40 [.c (.string (bs s))] (scanW (zCb s)):=by
 by_cases hbig : 65536 < s.length
 . exact scan_big s hbig hs
 have hz:=zAL s
 have f0 : decide (((bs s).size : Int) > 65536) = false:=decide_eq_false (by omega)
 have hsk0:=skip_ac s 0 (by omega) (by omega)
 rw [Nat.zero_add,List.drop_zero] at hsk0
 have hkl:=zBE false s
 have e0 : zCb s = ahead [] (scanG s.length (s.drop (skipM false s)) (skipM false s)):=by
  unfold zCb
  rw [if_neg hbig,scan_G,Nat.zero_add]
  cases scanG s.length (s.drop (skipM false s)) (skipM false s) <;> rfl
 refine zX 44 Tryz.func40 rfl rfl rfl (zEv _) ?_
 intro s0 w he
 repeat' (first
|apply zW
 . conv => lhs; whnf
 . assumption
|apply zS
 . conv => lhs; whnf
 . assumption
|refine zi ?_
|refine zf ?_
|refine zAH ?_
|refine zA ?_
|refine zI ?_
|refine zb ?_
|refine zU ?_
|refine za ?_
|apply aw_1
 conv => whnf
 refine ⟨?_,trivial⟩
|apply s_1
 conv => whnf; arg 1; arg 4; arg 3; whnf
 refine ⟨?_,?_⟩
|apply zt rfl
 . conv => lhs; whnf
 . conv => lhs; whnf; arg 2; whnf
|apply zd rfl
 . conv => lhs; whnf
 . conv => lhs; whnf
 . first | exact hsk0
|apply zAA rfl rfl rfl rfl
 . conv => lhs; whnf; arg 1; whnf
 . rfl
|apply zr rfl rfl rfl
 . conv => lhs; whnf
 . conv => lhs; whnf; arg 1; whnf
 . conv => lhs; whnf; arg 1; whnf
 . exact ⟨by kernel_rfl,by kernel_rfl⟩
 . rfl
|apply zBK rfl rfl
 . conv => lhs; whnf
 . first | (conv => lhs; whnf; arg 1; whnf)
 . first | exact fun _ => rfl | (intro _; kernel_rfl)
 . conv => lhs; whnf
 . conv => lhs; whnf; arg 1; whnf
 . conv => lhs; whnf
|apply zAJ rfl rfl rfl rfl
 . first | (conv => lhs; whnf; arg 1; whnf)
 . first | exact fun _ => rfl | (intro _; kernel_rfl)
 . conv => lhs; whnf
 . conv => lhs; whnf
|apply zAr rfl rfl
 . conv => lhs; whnf
 . first | (conv => lhs; whnf; arg 1; whnf)
|apply zAn rfl rfl
 . conv => lhs; whnf
 . first | (conv => lhs; whnf; arg 1; whnf)
 . conv => lhs; whnf; arg 1; whnf
 . rfl
 . rfl
|apply zAc rfl rfl
 . conv => lhs; whnf
 . first | (conv => lhs; whnf; arg 1; whnf)
 . first | exact fun _ => rfl | (intro _; kernel_rfl)
 . conv => lhs; whnf
 . conv => lhs; whnf
|apply zN
 . conv => lhs; whnf; arg 1; arg 1; whnf
|apply zO
 . conv => lhs; whnf; arg 1; arg 1; whnf
|refine zT (by conv => lhs; whnf) ?_ ?_ <;> intro hb
|refine zj ?_
|refine zZ ?_
|refine zG ?_
|refine zK ?_
|refine zC ?_
|refine zB rfl ?_
|refine zE rfl ?_
|refine zF ?_
|refine zJ ?_
|refine zD ?_
|refine zL ?_
|refine z6 ?_
|refine zH ?_
|refine ⟨_,by conv => lhs; whnf; arg 2; whnf,?_⟩; conv => rhs; whnf
|exact trivial
|intro hg)
 refine z8 (Sub.own (t:=5) (e:=134) rfl rfl) ?_
 refine z7 (fun j st => ∃ k acc f,k + j = s.length /\ acc.length <= k /\ s.length < f + k + 1 /\ zCb s = ahead acc (scanG f (s.drop k) k) /\ Sub (cx EN5 Tryz.prog s0 w he) st (HSn s k acc)) (s.length - skipM false s) ⟨skipM false s,[],s.length,by omega,by simp,by omega,e0,?_⟩ ?_
 . exact Sub.live ⟨rfl,rfl,rfl,trivial⟩ ⟨rfl,trivial⟩
 rintro j st ⟨k,acc,f,hkj,hacc,hf,hI,hs2⟩
 refine z8 hs2 ?_
 clear hs2 hsk0
 rw [hI]
 clear hI e0
 by_cases hk : k < s.length
 . have f1 : decide ((k : Int) < ((bs s).size : Nat)) = true:=decide_eq_true (by omega)
   have hrd:=read_ac hk (by omega)
   have hdr : s.drop k = s[k] :: s.drop (k + 1):=List.drop_eq_getElem_cons hk
   obtain ⟨r1,r2⟩:=rd_split s[k] (s.drop (k + 1)) k
   rw [hdr] at hrd |-
   cases hr : readU (s[k] :: s.drop (k + 1)) with
   | error e =>
     obtain ⟨he0,t',k',ht⟩:=r2 e hr
     rw [ht] at hrd
     unfold tupR at hrd
     have hrt : zDd (s[k] :: s.drop (k + 1)) k = .error e:=by unfold zDd; rw [hr]
     have eG : scanG f (s[k] :: s.drop (k + 1)) k = .error (k,e):=by unfold scanG; simp only [hrt]
     rw [eG]
     have f2 : (e != 0) = true:=by simpa using he0
     repeat' (first
|apply zW
 . conv => lhs; whnf
 . assumption
|apply zS
 . conv => lhs; whnf
 . assumption
|refine zi ?_
|refine zf ?_
|refine zAH ?_
|refine zA ?_
|refine zI ?_
|refine zb ?_
|refine zU ?_
|refine za ?_
|apply aw_1
 conv => whnf
 refine ⟨?_,trivial⟩
|apply s_1
 conv => whnf; arg 1; arg 4; arg 3; whnf
 refine ⟨?_,?_⟩
|apply zt rfl
 . conv => lhs; whnf
 . conv => lhs; whnf; arg 2; whnf
|apply zd rfl
 . conv => lhs; whnf
 . conv => lhs; whnf
 . first | exact hrd
|apply zAA rfl rfl rfl rfl
 . conv => lhs; whnf; arg 1; whnf
 . rfl
|apply zr rfl rfl rfl
 . conv => lhs; whnf
 . conv => lhs; whnf; arg 1; whnf
 . conv => lhs; whnf; arg 1; whnf
 . exact ⟨by kernel_rfl,by kernel_rfl⟩
 . rfl
|apply zBK rfl rfl
 . conv => lhs; whnf
 . first | (conv => lhs; whnf; arg 1; whnf)
 . first | exact fun _ => rfl | (intro _; kernel_rfl)
 . conv => lhs; whnf
 . conv => lhs; whnf; arg 1; whnf
 . conv => lhs; whnf
|apply zAJ rfl rfl rfl rfl
 . first | (conv => lhs; whnf; arg 1; whnf)
 . first | exact fun _ => rfl | (intro _; kernel_rfl)
 . conv => lhs; whnf
 . conv => lhs; whnf
|apply zAr rfl rfl
 . conv => lhs; whnf
 . first | (conv => lhs; whnf; arg 1; whnf)
|apply zAn rfl rfl
 . conv => lhs; whnf
 . first | (conv => lhs; whnf; arg 1; whnf)
 . conv => lhs; whnf; arg 1; whnf
 . rfl
 . rfl
|apply zAc rfl rfl
 . conv => lhs; whnf
 . first | (conv => lhs; whnf; arg 1; whnf)
 . first | exact fun _ => rfl | (intro _; kernel_rfl)
 . conv => lhs; whnf
 . conv => lhs; whnf
|apply zN
 . conv => lhs; whnf; arg 1; arg 1; whnf
|apply zO
 . conv => lhs; whnf; arg 1; arg 1; whnf
|refine zT (by conv => lhs; whnf) ?_ ?_ <;> intro hb
|refine zj ?_
|refine zZ ?_
|refine zG ?_
|refine zK ?_
|refine zC ?_
|refine zB rfl ?_
|refine zE rfl ?_
|refine zF ?_
|refine zJ ?_
|refine zD ?_
|refine zL ?_
|refine z6 ?_
|refine zH ?_
|refine ⟨_,by conv => lhs; whnf; arg 2; whnf,?_⟩; conv => rhs; whnf
|exact trivial
|intro hg)
     . exact ⟨_,_,_,rfl,rfl,rfl,rfl⟩
     all_goals exact (show Tryz.prog.underlying _ = some TypeDesc.string by kernel_rfl)
   | ok p =>
     obtain ⟨kk,t,n⟩:=p
     have hn:=zDm hr
     have hdl : (s[k] :: s.drop (k + 1)).length = s.length - k:=by rw [<- hdr,List.length_drop]
     rw [hdl] at hn
     rw [r1 kk t n hr] at hrd
     unfold tupR at hrd
     have hsk:=skip_ac s (k + n) (by omega) (by omega)
     have hsl:=zBE false (s.drop (k + n))
     rw [List.length_drop] at hsl
     have hrt : zDd (s[k] :: s.drop (k + 1)) k = .ok (⟨kk,t,k⟩,n):=by unfold zDd; rw [hr]
     obtain ⟨f',rfl⟩ : ∃ f',f = f' + 1:=⟨f - 1,by omega⟩
     have hdn : (s[k] :: s.drop (k + 1)).drop n = s.drop (k + n):=by rw [<- hdr,List.drop_drop]
     have eG : ahead acc (scanG (f' + 1) (s[k] :: s.drop (k + 1)) k) = ahead (acc ++ [⟨kk,t,k⟩]) (scanG f' (s.drop (k + n + skipM false (s.drop (k + n)))) (k + n + skipM false (s.drop (k + n)))):=by
      conv => lhs; unfold scanG
      simp only [hrt,hdn]
      rw [scan_G,List.drop_drop]
      cases scanG f' (s.drop (k + n + skipM false (s.drop (k + n)))) (k + n + skipM false (s.drop (k + n))) with
      | error x => rfl
      | ok ts => show Except.ok (acc ++ _ :: ts) = Except.ok ((acc ++ [_]) ++ ts); rw [List.append_assoc]; rfl
     rw [eG]
     repeat' (first
|apply zF8 [tokD ⟨kk,t,k⟩] rfl rfl
 . conv => lhs; whnf
 . first | exact zBL | (conv => lhs; whnf; arg 1; whnf)
 . rfl
 . rfl
 . repeat' (first | exact trivial | apply And.intro | rfl)
|apply zW
 . conv => lhs; whnf
 . assumption
|apply zS
 . conv => lhs; whnf
 . assumption
|refine zi ?_
|refine zf ?_
|refine zAH ?_
|refine zA ?_
|refine zI ?_
|refine zb ?_
|refine zU ?_
|refine za ?_
|apply aw_1
 conv => whnf
 refine ⟨?_,trivial⟩
|apply s_1
 conv => whnf; arg 1; arg 4; arg 3; whnf
 refine ⟨?_,?_⟩
|apply zt rfl
 . conv => lhs; whnf
 . conv => lhs; whnf; arg 2; whnf
|apply zd rfl
 . conv => lhs; whnf
 . conv => lhs; whnf
 . first | exact hrd | exact hsk
|apply zAA rfl rfl rfl rfl
 . conv => lhs; whnf; arg 1; whnf
 . rfl
|apply zr rfl rfl rfl
 . conv => lhs; whnf
 . conv => lhs; whnf; arg 1; whnf
 . conv => lhs; whnf; arg 1; whnf
 . exact ⟨by kernel_rfl,by kernel_rfl⟩
 . rfl
|apply zBK rfl rfl
 . conv => lhs; whnf
 . first | exact zBL | (conv => lhs; whnf; arg 1; whnf)
 . first | exact fun _ => rfl | (intro _; kernel_rfl)
 . conv => lhs; whnf
 . conv => lhs; whnf; arg 1; whnf
 . conv => lhs; whnf
|apply zAJ rfl rfl rfl rfl
 . first | exact zBL | (conv => lhs; whnf; arg 1; whnf)
 . first | exact fun _ => rfl | (intro _; kernel_rfl)
 . conv => lhs; whnf
 . conv => lhs; whnf
|apply zAr rfl rfl
 . conv => lhs; whnf
 . first | exact zBL | (conv => lhs; whnf; arg 1; whnf)
|apply zAn rfl rfl
 . conv => lhs; whnf
 . first | exact zBL | (conv => lhs; whnf; arg 1; whnf)
 . conv => lhs; whnf; arg 1; whnf
 . rfl
 . rfl
|apply zAc rfl rfl
 . conv => lhs; whnf
 . first | exact zBL | (conv => lhs; whnf; arg 1; whnf)
 . first | exact fun _ => rfl | (intro _; kernel_rfl)
 . conv => lhs; whnf
 . conv => lhs; whnf
|apply zN
 . conv => lhs; whnf; arg 1; arg 1; whnf
|apply zO
 . conv => lhs; whnf; arg 1; arg 1; whnf
|refine zT (by conv => lhs; whnf) ?_ ?_ <;> intro hb
|refine zj ?_
|refine zZ ?_
|refine zG ?_
|refine zK ?_
|refine zC ?_
|refine zB rfl ?_
|refine zE rfl ?_
|refine zF ?_
|refine zJ ?_
|refine zD ?_
|refine zL ?_
|refine z6 ?_
|refine zH ?_
|refine ⟨_,by conv => lhs; whnf; arg 2; whnf,?_⟩; conv => rhs; whnf
|exact trivial
|intro hg)
     . refine zh (j':=j - (n + skipM false (s.drop (k + n)))) (by omega) ⟨k + n + skipM false (s.drop (k + n)),acc ++ [⟨kk,t,k⟩],f',by omega,by rw [List.length_append]; simp only [List.length_cons,List.length_nil]; omega,by omega,rfl,Sub.live ⟨rfl,?_,rfl,trivial⟩ ⟨?_,trivial⟩⟩
       . show V.own 5 _ (acc.map tokD ++ [tokD ⟨kk,t,k⟩]) = V.own 5 _ ((acc ++ [(⟨kk,t,k⟩ : Tok)]).map tokD)
         rw [List.map_append]; rfl
       . show some (Res.tok _ ((acc.map tokD).length + 1)) = some (Res.tok _ ((acc ++ [(⟨kk,t,k⟩ : Tok)]).map tokD).length)
         simp
     . refine ⟨by simp,?_,?_⟩ <;> simp only [List.length_cons,List.length_nil,List.length_map,maxLen] <;> omega
     . exact (show Tryz.prog.underlying _ = some TypeDesc.string by kernel_rfl)
 . have f1 : decide ((k : Int) < ((bs s).size : Nat)) = false:=decide_eq_false (by omega)
   have hdr : s.drop k = []:=List.drop_of_length_le (by omega)
   rw [hdr]
   have ek : k = s.length:=by omega
   repeat' (first
|apply zF8 [tokD ⟨5,[],(bs s).size⟩] rfl rfl
 . conv => lhs; whnf
 . first | exact zBL | (conv => lhs; whnf; arg 1; whnf)
 . rfl
 . rfl
 . repeat' (first | exact trivial | apply And.intro | rfl)
|apply zW
 . conv => lhs; whnf
 . assumption
|apply zS
 . conv => lhs; whnf
 . assumption
|refine zi ?_
|refine zf ?_
|refine zAH ?_
|refine zA ?_
|refine zI ?_
|refine zb ?_
|refine zU ?_
|refine za ?_
|apply aw_1
 conv => whnf
 refine ⟨?_,trivial⟩
|apply s_1
 conv => whnf; arg 1; arg 4; arg 3; whnf
 refine ⟨?_,?_⟩
|apply zt rfl
 . conv => lhs; whnf
 . conv => lhs; whnf; arg 2; whnf
|apply zd rfl
 . conv => lhs; whnf
 . conv => lhs; whnf
 . first | fail
|apply zAA rfl rfl rfl rfl
 . conv => lhs; whnf; arg 1; whnf
 . rfl
|apply zr rfl rfl rfl
 . conv => lhs; whnf
 . conv => lhs; whnf; arg 1; whnf
 . conv => lhs; whnf; arg 1; whnf
 . exact ⟨by kernel_rfl,by kernel_rfl⟩
 . rfl
|apply zBK rfl rfl
 . conv => lhs; whnf
 . first | exact zBL | (conv => lhs; whnf; arg 1; whnf)
 . first | exact fun _ => rfl | (intro _; kernel_rfl)
 . conv => lhs; whnf
 . conv => lhs; whnf; arg 1; whnf
 . conv => lhs; whnf
|apply zAJ rfl rfl rfl rfl
 . first | exact zBL | (conv => lhs; whnf; arg 1; whnf)
 . first | exact fun _ => rfl | (intro _; kernel_rfl)
 . conv => lhs; whnf
 . conv => lhs; whnf
|apply zAr rfl rfl
 . conv => lhs; whnf
 . first | exact zBL | (conv => lhs; whnf; arg 1; whnf)
|apply zAn rfl rfl
 . conv => lhs; whnf
 . first | exact zBL | (conv => lhs; whnf; arg 1; whnf)
 . conv => lhs; whnf; arg 1; whnf
 . rfl
 . rfl
|apply zAc rfl rfl
 . conv => lhs; whnf
 . first | exact zBL | (conv => lhs; whnf; arg 1; whnf)
 . first | exact fun _ => rfl | (intro _; kernel_rfl)
 . conv => lhs; whnf
 . conv => lhs; whnf
|apply zN
 . conv => lhs; whnf; arg 1; arg 1; whnf
|apply zO
 . conv => lhs; whnf; arg 1; arg 1; whnf
|refine zT (by conv => lhs; whnf) ?_ ?_ <;> intro hb
|refine zj ?_
|refine zZ ?_
|refine zG ?_
|refine zK ?_
|refine zC ?_
|refine zB rfl ?_
|refine zE rfl ?_
|refine zF ?_
|refine zJ ?_
|refine zD ?_
|refine zL ?_
|refine z6 ?_
|refine zH ?_
|refine ⟨_,by conv => lhs; whnf; arg 2; whnf,?_⟩; conv => rhs; whnf
|exact trivial
|intro hg)
   . refine ⟨_,_,_,rfl,rfl,rfl,?_⟩
     show V.tup [.sl 134 ((acc ++ [(⟨5,[],k⟩ : Tok)]).map tokD),.c (.int .i64 0),.c (.int .i64 0)] = V.tup [.sl 134 (acc.map tokD ++ [tokD ⟨5,[],(bs s).size⟩]),.c (.int .i64 0),.c (.int .i64 0)]
     rw [ek,hz,List.map_append]; rfl
   . refine ⟨by simp,?_,?_⟩ <;> simp only [List.length_cons,List.length_nil,List.length_map,maxLen] <;> omega
   all_goals exact (show Tryz.prog.underlying _ = some TypeDesc.string by kernel_rfl)
 exact (show Tryz.prog.underlying _ = some TypeDesc.string by kernel_rfl)
end Go.Proofs.YtdlnnlglmifceaaGreatDoor
