import Derived.Test.YthjiclhfhjdjpaaGreatDoorQ30
set_option maxHeartbeats 8000000
set_option maxRecDepth 100000
set_option linter.unusedVariables false
set_option linter.unusedSimpArgs false
namespace Go.Proofs.YthjiclhfhjdjpaaGreatDoor
open Go.RowKit
attribute [local irreducible] wpList Calls Code.wp AW AWo OpOk seqK zAf zAh loopK endK AC zAD Yld Sub
def outR (K : Nat) (o : D) (i : Nat) : List UInt8:=zA2 o ++ (if i = 0 then [] else [40] ++ Lib.join (((o.f 2).l.map (varT K)).take i) commaT)
theorem zDK {K : Nat} {o : D} {i : Nat} (h : i < (o.f 2).l.length) : outR K o (i + 1) = (outR K o i ++ if i = 0 then [40] else [44,32]) ++ varT K (gD (o.f 2).l i):=by
 unfold outR
 rw [if_neg (by omega),zDO _ h]
 by_cases h0 : i = 0
 . subst h0
   rw [if_pos rfl,if_pos rfl,List.take_zero,List.nil_append,Lib.join_one]
   simp
 . rw [if_neg h0,if_neg h0,zCg _ _ _ (fun e => by have h2:=congrArg List.length e; rw [List.length_take,List.length_map] at h2; simp only [List.length_nil] at h2; omega)]
   simp [commaT]
noncomputable def HrA (o : D) : Vst 78:=stS 78 [(1,.bx 1 0)] [(1,.box 57 (cellsV Tryz.prog 12 57 o))]
noncomputable def HrM (o : D) : Vst 78:=stS 78 [(1,.bx 1 0),(3,.c (.string (bs (if (o.f 0).n = 2 then [109,117,116,97,116,105,111,110] else [113,117,101,114,121]))))] [(1,.box 57 (cellsV Tryz.prog 12 57 o))]
noncomputable def HrW (o : D) : Vst 78:=stS 78 [(1,.bx 1 0),(3,.c (.string (bs (zCP (o.f 0).n))))] [(1,.box 57 (cellsV Tryz.prog 12 57 o))]
noncomputable def HrB (K : Nat) (o : D) (i : Nat) : Vst 78:=stS 78 [(1,.bx 1 0),(3,.c (.string (bs (outR K o i)))),(4,.c (.int .i64 i))] [(1,.box 57 (cellsV Tryz.prog 12 57 o))]
noncomputable def HrC (o : D) : Vst 78:=stS 78 [(1,.bx 1 0),(3,.c (.string (bs (zA2 o))))] [(1,.box 57 (cellsV Tryz.prog 12 57 o))]
theorem opHeadR_ac (K : Nat) (o : D) (h : VarsOk K (o.f 2).l) (hn : (o.f 1).s.size <= 8388608) : AC EN Tryz.prog 60 [.agg (cellsV Tryz.prog 12 57 o)] (.c (.string (bs (opT K o)))):=by
 have hwl:=zEF (o.f 0).n
 have hll:=Nat.le_trans (zAR (o.f 2).l) h.bulk
 have hnl : (zA2 o).length <= 8388700:=by
  have:=zAP (o.f 1).s
  unfold zA2
  split <;> simp only [List.length_append,List.length_cons,List.length_nil] <;> omega
 have hol : ∀ i,(outR K o i).length <= 480000000:=fun i => by
  have h1:=zEH K _ h.wide
  have h2:=h.bulk
  have h3:=zDR ((o.f 2).l.map (varT K)) commaT i
  unfold varsT at h1
  unfold outR
  split <;> simp only [List.length_append,List.length_cons,List.length_nil] <;> omega
 by_cases hc : (o.f 0).n = 1 /\ tx (o.f 1).s = [] /\ (o.f 2).l.length = 0
 . have k1 : (((o.f 0).n == 1) == true) = false -> False:=fun h => by rw [hc.1] at h; cases h
   have k2 : (((o.f 1).s.toList == (⟨#[]⟩ : ByteArray).toList) == true) = false -> False:=fun h => e_ne (bF1 h) hc.2.1
   have k3 : ((((o.f 2).l.length : Int)) == 0) = false -> False:=fun h => by rw [hc.2.2] at h; cases h
   refine zO 78 Tryz.func60 rfl rfl rfl rfl ?_
   intro s w he
   repeat' (first
|exact (k1 ‹_›).elim
|exact (k2 ‹_›).elim
|exact (k3 ‹_›).elim
|refine zB ?_
|refine zC ?_
|refine zQ ?_
|apply aw_1
 conv => whnf
 refine ⟨?_,trivial⟩
|apply ze rfl rfl
 . conv => lhs; whnf
 . conv => lhs; whnf
 . first | exact bT1 ‹_› | exact bT2 ‹_›
|apply s_1
 conv => whnf; arg 1; arg 4; arg 3; whnf
 refine ⟨?_,?_⟩
|apply zAN rfl rfl rfl rfl
 . conv => lhs; whnf; arg 1; whnf
 . rfl
|apply zJ rfl
 . conv => lhs; whnf
 . conv => lhs; whnf
 . first | rfl | assumption
 . conv => lhs; whnf; arg 2; whnf
|apply zAF rfl
 . conv => lhs; whnf
 . conv => lhs; whnf
 . conv => lhs; whnf; arg 2; whnf
|refine zV (by conv => lhs; whnf) ?_ ?_ <;> intro hb
|refine zN ?_
|refine zD ?_
|refine ⟨_,by conv => lhs; whnf; arg 2; whnf,?_⟩; conv => rhs; whnf
|exact trivial
|intro hg)
   rw [opT,if_pos hc]; rfl
 . have kf : (((o.f 0).n == 1) == true) = true -> (((o.f 1).s.toList == (⟨#[]⟩ : ByteArray).toList) == true) = true -> ((((o.f 2).l.length : Int)) == 0) = true -> False:=fun h1 h2 h3 => hc ⟨by simpa using bT1 h1,e_eq (bT1 h2),leq0 h3⟩
   refine zO 78 Tryz.func60 rfl rfl rfl rfl ?_
   intro s w he
   repeat' (first
|apply zAv 3 (HrA o) rfl
|apply zAv 6 (HrM o) rfl
|apply zAv 8 (HrW o) rfl
|apply zAv 10 (HrC o) rfl
|exact (kf ‹_› ‹_› ‹_›).elim
|refine zBB ?_
|refine zB ?_
|refine zC ?_
|refine zQ ?_
|apply aw_1
 conv => whnf
 refine ⟨?_,trivial⟩
|apply ze rfl rfl
 . conv => lhs; whnf
 . conv => lhs; whnf
 . first | exact bT1 ‹_› | exact bT2 ‹_›
|apply zm rfl rfl
 . conv => lhs; whnf
 . conv => lhs; whnf
 . first | exact bF1 ‹_› | exact bF2 ‹_›
|apply s_1
 conv => whnf; arg 1; arg 4; arg 3; whnf
 refine ⟨?_,?_⟩
|apply zAN rfl rfl rfl rfl
 . conv => lhs; whnf; arg 1; whnf
 . rfl
|apply zJ rfl
 . conv => lhs; whnf
 . conv => lhs; whnf
 . first | rfl | assumption
 . conv => lhs; whnf; arg 2; whnf
|apply zDH rfl
 . conv => lhs; whnf
 . conv => lhs; whnf
 . first | rfl | assumption
|apply zAF rfl
 . conv => lhs; whnf
 . conv => lhs; whnf
 . conv => lhs; whnf; arg 2; whnf
|refine zV (by conv => lhs; whnf) ?_ ?_ <;> intro hb
|exact trivial
|intro hg)
   all_goals first
    | exact Sub.live ⟨rfl,trivial⟩ ⟨rfl,trivial⟩
    | ((simp only [ByteArray.size_append,zS,zT,List.size_toArray,List.length_append,List.length_cons,List.length_nil,maxLen,Nat.reduceAdd,Int.toNat_natCast]; omega); done)
    | skip
   . have e : (o.f 0).n = 2:=by simpa using hb
     refine Sub.live ⟨rfl,?_,trivial⟩ ⟨rfl,trivial⟩
     show V.c (.string ⟨#[109,117,116,97,116,105,111,110]⟩) = V.c (.string (bs _))
     rw [if_pos e]; rfl
   . have e : ¬ (o.f 0).n = 2:=by simpa using hb
     refine Sub.live ⟨rfl,?_,trivial⟩ ⟨rfl,trivial⟩
     show V.c (.string ⟨#[113,117,101,114,121]⟩) = V.c (.string (bs _))
     rw [if_neg e]; rfl
   . have e : (o.f 0).n = 3:=by simpa using hb
     refine Sub.live ⟨rfl,?_,trivial⟩ ⟨rfl,trivial⟩
     show V.c (.string ⟨#[115,117,98,115,99,114,105,112,116,105,111,110]⟩) = V.c (.string (bs (zCP (o.f 0).n)))
     rw [zCP,if_neg (by omega),if_pos e]; rfl
   . have e : ¬ (o.f 0).n = 3:=by simpa using hb
     refine Sub.live ⟨rfl,?_,trivial⟩ ⟨rfl,trivial⟩
     show V.c (.string (bs (if (o.f 0).n = 2 then [109,117,116,97,116,105,111,110] else [113,117,101,114,121]))) = V.c (.string (bs (zCP (o.f 0).n)))
     rw [zCP,if_neg e]
   . have hne : ¬ tx (o.f 1).s = []:=s_ne hb
     refine Sub.live ⟨rfl,?_,trivial⟩ ⟨rfl,trivial⟩
     show V.c (.string (bs (zCP (o.f 0).n) ++ ⟨#[32]⟩ ++ (o.f 1).s)) = V.c (.string (bs (zA2 o)))
     refine (zA0 ?_).symm
     rw [zA2,if_neg hne]
     simp only [zY,zAS,List.append_assoc]; rfl
   . have hne : tx (o.f 1).s = []:=s_eq hb
     refine Sub.live ⟨rfl,?_,trivial⟩ ⟨rfl,trivial⟩
     show V.c (.string (bs (zCP (o.f 0).n))) = V.c (.string (bs (zA2 o)))
     rw [zA2,if_pos hne,List.append_nil]
   . refine zv (fun j st => ∃ i,i + j = (o.f 2).l.length /\ Sub (cx EN Tryz.prog s w he) st (HrB K o i)) (o.f 2).l.length ⟨0,by omega,?_⟩ ?_
     . refine Sub.live ⟨rfl,?_,rfl,trivial⟩ ⟨rfl,trivial⟩
       show V.c (.string (bs (zA2 o))) = V.c (.string (bs (outR K o 0)))
       rw [outR,if_pos rfl,List.append_nil]
     . rintro j st ⟨i,hij,hs2⟩
       refine zu hs2 ?_
       have ho:=hol i
       by_cases hi : i < (o.f 2).l.length
       . obtain ⟨z1,z2,z3,z4,z5,z6⟩:=h.sz hi
         have hv:=zC7 K ((gD (o.f 2).l i).f 3) (h.dp i hi) ((h.wide i).f 3) z5
         have hr:=refR_d ((gD (o.f 2).l i).f 1) (Nat.le_trans z2 (by omega)) (Nat.le_trans z3 (by omega))
         have hge : decide ((i : Int) < ((o.f 2).l.length : Int)) = false -> False:=fun h => by have:=zCK h; omega
         repeat' (first
|exact (hge ‹_›).elim
|refine zB ?_
|refine zC ?_
|refine zQ ?_
|refine zU ?_
|apply aw_1
 conv => whnf
 refine ⟨?_,trivial⟩
|apply s_1
 conv => whnf; arg 1; arg 4; arg 3; whnf
 refine ⟨?_,?_⟩
|apply zl rfl
 . conv => lhs; whnf
 . conv => lhs; whnf
 . first | exact hv | exact hr
|apply zz rfl rfl rfl
 . conv => lhs; whnf
 . conv => lhs; whnf; arg 1; whnf
 . conv => lhs; whnf; arg 1; whnf
 . exact ⟨by kernel_rfl,by kernel_rfl⟩
 . rfl
|apply zAJ (by kernel_rfl) (by kernel_rfl)
|apply zAx
|apply zAw rfl
 . conv => lhs; whnf
 . conv => lhs; whnf; arg 2; whnf
|apply zAq rfl
 . conv => lhs; whnf
 . conv => lhs; whnf
 . first | exact hv | exact hr
|exact zd
|exact zy
|exact (1000000 : Nat)
|refine zV (by conv => lhs; whnf) ?_ ?_ <;> intro hb
|exact trivial)
         all_goals first
          | exact zo (by omega)
          | ((simp only [ByteArray.size_append,zS,zT,List.size_toArray,List.length_append,List.length_cons,List.length_nil,maxLen,Nat.reduceAdd,Int.toNat_natCast]; omega); done)
          | exact ⟨by omega,by omega⟩
          | skip
         . rename_i h1 h0
           have e0 : i = 0:=leq0 h0
           have hhas : ((gD (o.f 2).l i).f 2).b = true:=hb
           refine zF (j':=j - 1) (by omega) ⟨i + 1,by omega,Sub.live ⟨rfl,?_,rfl,trivial⟩ ⟨rfl,trivial⟩⟩
           show V.c (.string (bs (outR K o i) ++ ⟨#[40]⟩ ++ ⟨#[36]⟩ ++ ((gD (o.f 2).l i).f 0).s ++ ⟨#[58,32]⟩ ++ bs (refB (tx (((gD (o.f 2).l i).f 1).f 0).s) (((gD (o.f 2).l i).f 1).f 1).l) ++ ⟨#[32,61,32]⟩ ++ bs (valT K ((gD (o.f 2).l i).f 3)))) = V.c (.string (bs (outR K o (i + 1))))
           refine (zA0 ?_).symm
           rw [zDK hi,if_pos e0,varT,hhas,if_pos rfl]
           simp only [zY,zAS,List.append_assoc]; rfl
         . rename_i h1 h0
           have e0 : i = 0:=leq0 h0
           have hhas : ((gD (o.f 2).l i).f 2).b = false:=hb
           refine zF (j':=j - 1) (by omega) ⟨i + 1,by omega,Sub.live ⟨rfl,?_,rfl,trivial⟩ ⟨rfl,trivial⟩⟩
           show V.c (.string (bs (outR K o i) ++ ⟨#[40]⟩ ++ ⟨#[36]⟩ ++ ((gD (o.f 2).l i).f 0).s ++ ⟨#[58,32]⟩ ++ bs (refB (tx (((gD (o.f 2).l i).f 1).f 0).s) (((gD (o.f 2).l i).f 1).f 1).l))) = V.c (.string (bs (outR K o (i + 1))))
           refine (zA0 ?_).symm
           rw [zDK hi,if_pos e0,varT,hhas,if_neg (by decide),List.append_nil]
           simp only [zY,zAS,List.append_assoc]; rfl
         . rename_i h1 h0
           have e0 : ¬ i = 0:=fun e => by rw [e] at h0; cases h0
           have hhas : ((gD (o.f 2).l i).f 2).b = true:=hb
           refine zF (j':=j - 1) (by omega) ⟨i + 1,by omega,Sub.live ⟨rfl,?_,rfl,trivial⟩ ⟨rfl,trivial⟩⟩
           show V.c (.string (bs (outR K o i) ++ ⟨#[44,32]⟩ ++ ⟨#[36]⟩ ++ ((gD (o.f 2).l i).f 0).s ++ ⟨#[58,32]⟩ ++ bs (refB (tx (((gD (o.f 2).l i).f 1).f 0).s) (((gD (o.f 2).l i).f 1).f 1).l) ++ ⟨#[32,61,32]⟩ ++ bs (valT K ((gD (o.f 2).l i).f 3)))) = V.c (.string (bs (outR K o (i + 1))))
           refine (zA0 ?_).symm
           rw [zDK hi,if_neg e0,varT,hhas,if_pos rfl]
           simp only [zY,zAS,List.append_assoc]; rfl
         . rename_i h1 h0
           have e0 : ¬ i = 0:=fun e => by rw [e] at h0; cases h0
           have hhas : ((gD (o.f 2).l i).f 2).b = false:=hb
           refine zF (j':=j - 1) (by omega) ⟨i + 1,by omega,Sub.live ⟨rfl,?_,rfl,trivial⟩ ⟨rfl,trivial⟩⟩
           show V.c (.string (bs (outR K o i) ++ ⟨#[44,32]⟩ ++ ⟨#[36]⟩ ++ ((gD (o.f 2).l i).f 0).s ++ ⟨#[58,32]⟩ ++ bs (refB (tx (((gD (o.f 2).l i).f 1).f 0).s) (((gD (o.f 2).l i).f 1).f 1).l))) = V.c (.string (bs (outR K o (i + 1))))
           refine (zA0 ?_).symm
           rw [zDK hi,if_neg e0,varT,hhas,if_neg (by decide),List.append_nil]
           simp only [zY,zAS,List.append_assoc]; rfl
       . have hno : decide ((i : Int) < ((o.f 2).l.length : Int)) = true -> False:=fun h => hi (zAW h)
         have e : i = (o.f 2).l.length:=by omega
         repeat' (first
|exact (hno ‹_›).elim
|refine zB ?_
|refine zC ?_
|refine zQ ?_
|apply aw_1
 conv => whnf
 refine ⟨?_,trivial⟩
|apply s_1
 conv => whnf; arg 1; arg 4; arg 3; whnf
 refine ⟨?_,?_⟩
|refine zV (by conv => lhs; whnf) ?_ ?_ <;> intro hb
|refine zI ?_
|refine zE rfl ?_
|refine zG ?_
|refine zD ?_
|refine ⟨_,by conv => lhs; whnf; arg 2; whnf,?_⟩; conv => rhs; whnf
|exact trivial)
         all_goals first
          | ((simp only [ByteArray.size_append,zS,zT,List.size_toArray,List.length_append,List.length_cons,List.length_nil,maxLen,Nat.reduceAdd,Int.toNat_natCast]; omega); done)
          | skip
         . have hp : ¬ (o.f 2).l.length = 0:=by have : ((o.f 2).l.length : Int) > 0:=of_decide_eq_true hb
                                                omega
           refine zA0 ?_
           rw [opT,if_neg hc,if_neg hp,<- zA2,e,outR,if_neg hp,show (o.f 2).l.length = ((o.f 2).l.map (varT K)).length by simp,List.take_length]
           simp only [zY,zAS,List.append_assoc]; rfl
         . have hp : (o.f 2).l.length = 0:=len0 hb
           refine zA0 ?_
           rw [opT,if_neg hc,if_pos hp,<- zA2,e,outR,if_pos hp,List.append_nil]
           simp only [zY,zAS,List.append_assoc]; rfl
end Go.Proofs.YthjiclhfhjdjpaaGreatDoor
namespace Go.Proofs.YthjiclhfhjdjpaaGreatDoor
open Go.RowKit
attribute [local irreducible] wpList Calls Code.wp AW AWo OpOk seqK zAf zAh loopK endK AC zAD Yld Sub
attribute [local irreducible] ACB absLexG YldG
def zDv (K F : Nat) (first : List UInt8) (l : List D) : List UInt8:=zA1 0 first ++ selsT K F 1 l ++ zA1 0 [125]
def opB (K F : Nat) (o : D) : List UInt8:=zDv K F (opT K o) (o.f 3).l
def zEx (fr : D) : List UInt8:=[102,114,97,103,109,101,110,116,32] ++ tx (fr.f 0).s ++ [32,111,110,32] ++ tx (fr.f 1).s ++ [32,123]
def zCH (K F : Nat) (fr : D) : List UInt8:=zDv K F (zEx fr) (fr.f 2).l
def docT (K F : Nat) (q : D) : List UInt8:=Lib.join ((q.f 0).l.map (opB K F) ++ (q.f 1).l.map (zCH K F)) [10]
structure DocOk (K f : Nat) (q : D) : Prop where
 wide : wideD q
 bulk : bulkD q <= 8388608
 deep : f <= 299
 vars : ∀ i,i < (q.f 0).l.length -> VarsOk K ((gD (q.f 0).l i).f 2).l
 sels : ∀ i,i < (q.f 0).l.length -> SelsOk K (f + 1) ((gD (q.f 0).l i).f 3).l
 frag : ∀ i,i < (q.f 1).l.length -> SelsOk K (f + 1) ((gD (q.f 1).l i).f 2).l
theorem zDo (K f : Nat) (first : List UInt8) (l : List D) (hw : ∀ i,wideD (gD l i)) (hf : f <= 299) : (zDv K (f + 1) first l).length <= first.length + 1274 * bulkL l + 3:=by
 have h:=zB4 K (f + 1) 1 l hw
 have h2 : (4 * (1 + (f + 1)) + 70) * bulkL l <= 1274 * bulkL l:=Nat.mul_le_mul_right _ (by omega)
 simp only [zDv,List.length_append,zAe,List.length_cons,List.length_nil]
 omega
theorem zHE (K : Nat) (o : D) (h : wideD o) : (opT K o).length <= 18 + (o.f 1).s.size + 40 * bulkL (o.f 2).l:=by
 have h1:=zEF (o.f 0).n
 have h2:=zAP (o.f 1).s
 have h3:=zEH K (o.f 2).l fun i => (h.f 2).l i
 unfold opT
 split
 . simp; omega
 . split <;> split <;> simp only [List.length_append,List.length_cons,List.length_nil] <;> omega
theorem opB_len (K f : Nat) (o : D) (h : wideD o) (hf : f <= 299) : (opB K (f + 1) o).length + 1 <= 1274 * bulkD o:=by
 have h1:=zHE K o h
 have h2:=zDo K f (opT K o) (o.f 3).l (fun i => (h.f 3).l i) hf
 have h3:=zAn o 4
 have h4:=zAG (o.f 1)
 have h5:=z7 (o.f 2)
 have h6:=z7 (o.f 3)
 have h7:=zZ o
 simp only [sumN] at h3
 unfold opB
 omega
theorem fragB_len (K f : Nat) (o : D) (h : wideD o) (hf : f <= 299) : (zCH K (f + 1) o).length + 1 <= 1274 * bulkD o:=by
 have h2:=zDo K f (zEx o) (o.f 2).l (fun i => (h.f 2).l i) hf
 have h3:=zAn o 3
 have h4:=zAG (o.f 0)
 have h5:=zAG (o.f 1)
 have h6:=z7 (o.f 2)
 have h7:=zZ o
 have h8:=zAP (o.f 0).s
 have h9:=zAP (o.f 1).s
 have h1 : (zEx o).length = 15 + (o.f 0).s.size + (o.f 1).s.size:=by simp only [zEx,List.length_append,List.length_cons,List.length_nil]; omega
 simp only [sumN] at h3
 unfold zCH
 omega
theorem zHO (a b : List (List UInt8)) (sep : List UInt8) : (Lib.join (a ++ b) sep).length <= (a.map fun l => l.length + sep.length).sum + (b.map fun l => l.length + sep.length).sum:=by
 refine Nat.le_trans (join_le sep _) ?_
 rw [List.map_append,List.sum_append]
 exact Nat.le_refl _
theorem zE3 (l : List D) (f : D -> List UInt8) (s c : Nat) (h : ∀ i,i < l.length -> (f (gD l i)).length + s <= c * bulkD (gD l i)) : ((l.map f).map fun t => t.length + s).sum <= c * bulkL l:=by
 induction l with
 | nil => simp
 | cons x r ih =>
   have h0:=h 0 (by simp)
   have h1:=ih fun i hi => h (i + 1) (by simpa using hi)
   simp only [List.map_cons,List.sum_cons,bulkL,Nat.mul_add]
   have e : gD (x :: r) 0 = x:=rfl
   rw [e] at h0
   omega
theorem zEA (K f : Nat) (q : D) (h : wideD q) (hf : f <= 299) : (docT K (f + 1) q).length <= 1274 * bulkD q:=by
 have h1:=zHO ((q.f 0).l.map (opB K (f + 1))) ((q.f 1).l.map (zCH K (f + 1))) [10]
 have h2:=zE3 (q.f 0).l (opB K (f + 1)) 1 1274 fun i _ => opB_len K f _ ((h.f 0).l i) hf
 have h3:=zE3 (q.f 1).l (zCH K (f + 1)) 1 1274 fun i _ => fragB_len K f _ ((h.f 1).l i) hf
 have h4:=zAn q 2
 have h5:=z7 (q.f 0)
 have h6:=z7 (q.f 1)
 have h7:=zZ q
 simp only [sumN] at h4
 unfold docT
 simp only [List.length_cons,List.length_nil,Nat.zero_add] at h1
 omega
theorem zIq (K f : Nat) (first : List UInt8) (l : List D) (h : SelsOk K (f + 1) l) (hw : ∀ i,wideD (gD l i)) (hb : bulkL l <= 8388608) (hf : f <= 299) (hs : first.length <= 800000000) :
 AC EN Tryz.prog 57 [.c (.string (bs first)),.sl 76 l] (.c (.string (bs (zDv K (f + 1) first l)))):=by
 have h1:=zB4 K (f + 1) 1 l hw
 have h2 : (4 * (1 + (f + 1)) + 70) * bulkL l <= 1274 * 8388608:=Nat.mul_le_mul (by omega) hb
 have l0 : ACB EN Tryz.prog 115 [.bx (pn 0) 0,.c (.int .i64 0),.c (.string (bs first))] [.bld 110 5 []] (.tup []) [.bld 110 5 (zA1 0 first)]:=
  zCe [] 0 (bs first) (by omega) (by rw [zS]; omega) (by simp)
 have l1 : ACB EN Tryz.prog 55 [.bx (pn 0) 0,.sl 76 l,.c (.int .i64 1)] [.bld 110 5 (zA1 0 first)] (.tup []) [.bld 110 5 (zA1 0 first ++ selsT K (f + 1) 1 l)]:=
  sels_acb K f 1 l (zA1 0 first) h hw hb (by omega) (by rw [zAe]; omega)
 have l2 : ACB EN Tryz.prog 115 [.bx (pn 0) 0,.c (.int .i64 0),.c (.string ⟨#[125]⟩)] [.bld 110 5 (zA1 0 first ++ selsT K (f + 1) 1 l)] (.tup []) [.bld 110 5 (zDv K (f + 1) first l)]:=
  zCe (zA1 0 first ++ selsT K (f + 1) 1 l) 0 ⟨#[125]⟩ (by omega) (by decide) (by rw [List.length_append,zAe]; omega)
 have hl:=zDo K f first l hw hf
 refine zO 13 Tryz.func57 rfl rfl rfl rfl ?_
 intro s w he
 repeat' (first
|apply s_bcall0 rfl
 . conv => lhs; whnf
 . conv => lhs; whnf
 . rfl
 . rfl
 . first | exact l0
 . rfl
 . exact fun _ => rfl
 . exact fun _ => rfl
|apply zFj rfl
 . conv => lhs; whnf
 . conv => lhs; whnf
 . rfl
 . conv => lhs; whnf; arg 1; whnf
 . first | exact l1 | exact l2
 . exact fun _ => rfl
 . exact fun _ => rfl
|apply s_bs rfl
 . conv => lhs; whnf
 . conv => lhs; whnf
 . rfl
 . conv => lhs; whnf; arg 1; whnf
 . exact ⟨rfl,rfl⟩
 . rfl
|refine zB ?_
|refine zC ?_
|refine zQ ?_
|apply aw_1
 conv => whnf
 refine ⟨?_,trivial⟩
|apply s_1
 conv => whnf; arg 1; arg 4; arg 3; whnf
 refine ⟨?_,?_⟩
|refine zD ?_
|refine ⟨_,by conv => lhs; whnf; arg 2; whnf,?_⟩; conv => rhs; whnf
|exact trivial)
 all_goals (unfold maxLen; omega)
end Go.Proofs.YthjiclhfhjdjpaaGreatDoor
namespace Go.Proofs.YthjiclhfhjdjpaaGreatDoor
structure J (e : Tok) (r : List Tok) (a : List Tok) (x x' : PS) : Prop where
 l : x.ts = a ++ [e]
 r : x'.ts = a ++ r
 vr : x'.vr = x.vr
 nd : x'.nd = x.nd
def LO (e : Tok) (r : List Tok) {α : Type} (a : List Tok) (p p' : PR α) : Prop:=
 ∀ v y,p = .ok (v,y) -> ∃ b,(∃ d,a = d ++ b) /\ y.ts = b ++ [e] /\ (b ≠ [] -> ∃ y',p' = .ok (v,y') /\ J e r b y y')
def LS (e : Tok) (r : List Tok) {α : Type} (a : List Tok) (p p' : PR α) : Prop:=
 ∀ v y,p = .ok (v,y) -> ∃ b y',(∃ t d,a = t :: d ++ b) /\ p' = .ok (v,y') /\ J e r b y y'
structure Ends (e : Tok) (r : List Tok) : Prop where
 k : e.k = 5
 r : r ≠ []
section
variable {e : Tok} {r : List Tok} {α β : Type}
theorem LS.lo {a : List Tok} {p p' : PR α} (h : LS e r a p p') : LO e r a p p':=fun v y hp => by
 obtain ⟨b,y',⟨t,d,hd⟩,h1,h2⟩:=h v y hp
 exact ⟨b,⟨t :: d,hd⟩,h2.l,fun _ => ⟨y',h1,h2⟩⟩
theorem LO.zero {p p' p'' : PR α} (h : LO e r [] p p') : LO e r [] p p'':=fun v y hp => by
 obtain ⟨b,⟨d,hd⟩,h1,h2⟩:=h v y hp
 have : b = []:=(List.append_eq_nil_iff.1 hd.symm).2
 subst this
 exact ⟨[],⟨[],rfl⟩,h1,fun h => (h rfl).elim⟩
theorem LS.zero {p p' p'' : PR α} (h : LS e r [] p p') : LS e r [] p p'':=fun v y hp => by
 obtain ⟨b,y',⟨t,d,hd⟩,-⟩:=h v y hp
 cases hd
theorem LO.err {a : List Tok} {q : Nat × Int} {p' : PR α} : LO e r a (.error q) p':=fun _ _ h => by cases h
theorem LS.err {a : List Tok} {q : Nat × Int} {p' : PR α} : LS e r a (.error q) p':=fun _ _ h => by cases h
theorem LO.okk {a : List Tok} {x x' : PS} (h : J e r a x x') (v : α) : LO e r a (.ok (v,x)) (.ok (v,x')):=fun w y hp => by
 cases hp
 exact ⟨a,⟨[],rfl⟩,h.l,fun _ => ⟨x',rfl,h⟩⟩
theorem LO.mono {a b : List Tok} {p p' : PR α} (h : LO e r b p p') (hab : ∃ d,a = d ++ b) : LO e r a p p':=fun v y hp => by
 obtain ⟨c,⟨d,hd⟩,h1⟩:=h v y hp
 obtain ⟨d2,hd2⟩:=hab
 exact ⟨c,⟨d2 ++ d,by rw [hd2,hd,List.append_assoc]⟩,h1⟩
theorem LS.mono {a b : List Tok} {p p' : PR α} (h : LS e r b p p') (hab : ∃ d,a = d ++ b) : LS e r a p p':=fun v y hp => by
 obtain ⟨c,y',⟨t,d,hd⟩,h1⟩:=h v y hp
 obtain ⟨d2,hd2⟩:=hab
 cases d2 with
 | nil => exact ⟨c,y',⟨t,d,by rw [hd2,hd]; rfl⟩,h1⟩
 | cons t2 d2 => exact ⟨c,y',⟨t2,d2 ++ t :: d,by rw [hd2,hd]; simp⟩,h1⟩
theorem LS.okn {t : Tok} {a : List Tok} {x x' : PS} (h : J e r a x x') (v : α) : LS e r (t :: a) (.ok (v,x)) (.ok (v,x')):=fun w y hp => by
 cases hp
 exact ⟨a,x',⟨t,[],rfl⟩,rfl,h⟩
theorem LO.ite {a : List Tok} {c c' : Prop} [Decidable c] [Decidable c'] {A A' B B' : PR α} (hc : a ≠ [] -> (c ↔ c')) (h1 : c -> LO e r a A A') (h2 : ¬ c -> LO e r a B B') : LO e r a (if c then A else B) (if c' then A' else B'):=by
 by_cases ha : a = []
 . subst ha
   by_cases h : c
   . rw [if_pos h]; exact (h1 h).zero
   . rw [if_neg h]; exact (h2 h).zero
 . by_cases h : c
   . rw [if_pos h,if_pos ((hc ha).1 h)]; exact h1 h
   . rw [if_neg h,if_neg fun h' => h ((hc ha).2 h')]; exact h2 h
theorem LS.ite {a : List Tok} {c c' : Prop} [Decidable c] [Decidable c'] {A A' B B' : PR α} (hc : a ≠ [] -> (c ↔ c')) (h1 : c -> LS e r a A A') (h2 : ¬ c -> LS e r a B B') : LS e r a (if c then A else B) (if c' then A' else B'):=by
 by_cases ha : a = []
 . subst ha
   by_cases h : c
   . rw [if_pos h]; exact (h1 h).zero
   . rw [if_neg h]; exact (h2 h).zero
 . by_cases h : c
   . rw [if_pos h,if_pos ((hc ha).1 h)]; exact h1 h
   . rw [if_neg h,if_neg fun h' => h ((hc ha).2 h')]; exact h2 h
theorem LO.then {a : List Tok} {p p' : PR α} {f f' : α -> PS -> PR β} (h : LO e r a p p') (hf : ∀ v b y y',J e r b y y' -> LO e r b (f v y) (f' v y')) : LO e r a (zAX p f) (zAX p' f'):=fun w z hp => by
 cases hpp : p with
 | error q => rw [hpp] at hp; cases hp
 | ok q =>
   obtain ⟨v,y⟩:=q
   obtain ⟨b,hab,h1,h2⟩:=h v y hpp
   rw [hpp] at hp
   have hp : f v y = .ok (w,z):=hp
   by_cases hb : b = []
   . subst hb
     obtain ⟨c,⟨d,hd⟩,h3,-⟩:=hf v [] y ⟨r,y.vr,y.nd⟩ ⟨h1,rfl,rfl,rfl⟩ w z hp
     have : c = []:=(List.append_eq_nil_iff.1 hd.symm).2
     subst this
     exact ⟨[],hab,h3,fun h => (h rfl).elim⟩
   . obtain ⟨y',h3,h4⟩:=h2 hb
     rw [h3]
     exact ((hf v b y y' h4).mono hab) w z hp
theorem LS.then {a : List Tok} {p p' : PR α} {f f' : α -> PS -> PR β} (h : LO e r a p p') (hf : ∀ v b y y',J e r b y y' -> LS e r b (f v y) (f' v y')) : LS e r a (zAX p f) (zAX p' f'):=fun w z hp => by
 cases hpp : p with
 | error q => rw [hpp] at hp; cases hp
 | ok q =>
   obtain ⟨v,y⟩:=q
   obtain ⟨b,hab,h1,h2⟩:=h v y hpp
   rw [hpp] at hp
   have hp : f v y = .ok (w,z):=hp
   by_cases hb : b = []
   . subst hb
     obtain ⟨c,y',⟨t,d,hd⟩,-⟩:=hf v [] y ⟨r,y.vr,y.nd⟩ ⟨h1,rfl,rfl,rfl⟩ w z hp
     cases hd
   . obtain ⟨y',h3,h4⟩:=h2 hb
     rw [h3]
     exact ((hf v b y y' h4).mono hab) w z hp
theorem LS.pure {a : List Tok} {p p' : PR α} {f f' : α -> PS -> PR β} (h : LS e r a p p') (hf : ∀ v b y y',J e r b y y' -> ∃ w z z',f v y = .ok (w,z) /\ f' v y' = .ok (w,z') /\ J e r b z z') : LS e r a (zAX p f) (zAX p' f'):=fun w z hp => by
 cases hpp : p with
 | error q => rw [hpp] at hp; cases hp
 | ok q =>
   obtain ⟨v,y⟩:=q
   obtain ⟨b,y',hab,h1,h2⟩:=h v y hpp
   rw [hpp] at hp
   have hp : f v y = .ok (w,z):=hp
   obtain ⟨w2,z2,z',h3,h4,h5⟩:=hf v b y y' h2
   rw [hp] at h3
   cases h3
   rw [h1]
   exact ⟨b,z',hab,h4,h5⟩
variable (hE : Ends e r)
theorem J.hd {a : List Tok} {x x' : PS} (h : J e r a x x') (ha : a ≠ []) : hdT x' = hdT x:=by
 cases a with
 | nil => exact (ha rfl).elim
 | cons t a => unfold hdT; rw [h.l,h.r]; rfl
theorem J.sg {a : List Tok} {x x' : PS} (h : J e r a x x') (s : List UInt8) (ha : a ≠ []) : isS x s = true ↔ isS x' s = true:=by
 unfold isS; rw [h.hd ha]
include hE
theorem J.k5 {x x' : PS} (h : J e r [] x x') : (hdT x).k = 5:=by unfold hdT; rw [h.l]; exact hE.k
theorem J.ne_of_k {a : List Tok} {x x' : PS} (h : J e r a x x') (hk : (hdT x).k ≠ 5) : ∃ t a',a = t :: a' /\ J e r a' (nxT x) (nxT x'):=by
 cases a with
 | nil => exact (hk (h.k5 hE)).elim
 | cons t a =>
   have h1:=h.hd (by simp)
   refine ⟨t,a,rfl,?_⟩
   unfold nxT
   rw [h1,if_neg hk,if_neg hk]
   exact ⟨by show x.ts.drop 1 = _; rw [h.l]; rfl,by show x'.ts.drop 1 = _; rw [h.r]; rfl,h.vr,h.nd⟩
theorem J.ne_of_isS {a : List Tok} {x x' : PS} (h : J e r a x x') {s : List UInt8} (hs : isS x s = true) : ∃ t a',a = t :: a' /\ J e r a' (nxT x) (nxT x'):=by
 refine h.ne_of_k hE ?_
 unfold isS at hs
 simp only [Bool.and_eq_true,beq_iff_eq] at hs
 rw [hs.1]; decide
theorem J.len {a : List Tok} {x x' : PS} (h : J e r a x x') : x.ts.length <= x'.ts.length:=by
 rw [h.l,h.r,List.length_append,List.length_append]
 have : 0 < r.length:=List.length_pos_iff.2 hE.r
 simp; omega
theorem zCQ {a : List Tok} {x x' : PS} (h : J e r a x x') (s : List UInt8) : LS e r a (zDZ s x) (zDZ s x'):=by
 unfold zDZ
 refine .ite (h.sg s) (fun hs => ?_) fun _ => .err
 obtain ⟨t,a',rfl,h'⟩:=h.ne_of_isS hE hs
 exact .okn h' _
theorem zBV {a : List Tok} {x x' : PS} (h : J e r a x x') : LS e r a (zBn x) (zBn x'):=by
 unfold zBn
 refine .ite (fun ha => by rw [h.hd ha]) (fun hk => ?_) fun _ => .err
 obtain ⟨t,a',rfl,h'⟩:=h.ne_of_k hE (by rw [hk]; decide)
 rw [h.hd (by simp)]
 exact .okn h' _
theorem open_j : ∀ (f g : Nat) {a : List Tok} {x x' : PS},J e r a x x' -> x.ts.length <= f -> x'.ts.length <= g -> ∃ b,(∃ d,a = d ++ b) /\ (zBj f x).2.ts = b ++ [e] /\ (b ≠ [] -> (zBj g x').1 = (zBj f x).1 /\ J e r b (zBj f x).2 (zBj g x').2)
 | 0,g,a,x,x',h,hf,_ => by rw [h.l] at hf; simp at hf
 | f + 1,0,a,x,x',h,_,hg => by have:=h.len hE; rw [h.l] at this; simp at this; omega
 | f + 1,g + 1,a,x,x',h,hf,hg => by
   by_cases hs : isS x [91] = true
   . obtain ⟨t,a',rfl,h'⟩:=h.ne_of_isS hE hs
     have hs':=(h.sg [91] (by simp)).1 hs
     have e1 : zBj (f + 1) x = ((zBj f (nxT x)).1 + 1,(zBj f (nxT x)).2):=by rw [zBj,if_pos hs]
     have e2 : zBj (g + 1) x' = ((zBj g (nxT x')).1 + 1,(zBj g (nxT x')).2):=by rw [zBj,if_pos hs']
     rw [e1,e2]
     obtain ⟨b,⟨d,hd⟩,h1,h2⟩:=open_j f g h' (by rw [h'.l]; rw [h.l] at hf; simpa using hf) (by rw [h'.r]; rw [h.r] at hg; simpa using hg)
     exact ⟨b,⟨t :: d,by rw [hd]; rfl⟩,h1,fun hb => ⟨by rw [(h2 hb).1],(h2 hb).2⟩⟩
   . have e1 : zBj (f + 1) x = (0,x):=by rw [zBj,if_neg hs]
     rw [e1]
     refine ⟨a,⟨[],rfl⟩,h.l,fun ha => ?_⟩
     have e2 : zBj (g + 1) x' = (0,x'):=by rw [zBj,if_neg fun hq => hs ((h.sg [91] ha).2 hq)]
     rw [e2]
     exact ⟨rfl,h⟩
theorem zF6 : ∀ (n : Nat) (w : List Int) {a : List Tok} {x x' : PS},J e r a x x' -> LO e r a (closeQ n w x) (closeQ n w x')
 | 0,w,a,x,x',h => by
   have e1 : ∀ x,closeQ 0 w x = if isS x [33] = true then .ok (1 :: w,nxT x) else .ok (w,x):=fun x => by unfold closeQ; split <;> rfl
   rw [e1,e1]
   refine .ite (h.sg _) (fun hs => ?_) fun _ => .okk h _
   obtain ⟨t,a',rfl,h'⟩:=h.ne_of_isS hE hs
   exact (LS.okn h' _).lo
 | n + 1,w,a,x,x',h => by
   have e1 : ∀ x,closeQ (n + 1) w x = if isS x [33] = true then zAX (zDZ [93] (nxT x)) fun _ y => closeQ n (2 :: 1 :: w) y else zAX (zDZ [93] x) fun _ y => closeQ n (2 :: w) y:=fun x => by
    rw [closeQ]; split <;> rfl
   rw [e1,e1]
   refine .ite (h.sg _) (fun hs => ?_) fun _ => .then (zCQ hE h _).lo fun _ _ _ _ hy => zF6 n _ hy
   obtain ⟨t,a',rfl,h'⟩:=h.ne_of_isS hE hs
   exact (LO.then (zCQ hE h' _).lo fun _ _ _ _ hy => zF6 n _ hy).mono ⟨[t],rfl⟩
theorem inner_lo {a : List Tok} {x x' : PS} (h : J e r a x x') : LO e r a (zIJ x) (zIJ x'):=by
 obtain ⟨b,hab,h1,h2⟩:=open_j hE x.ts.length x'.ts.length h (Nat.le_refl _) (Nat.le_refl _)
 unfold zIJ
 by_cases hb : b = []
 . subst hb
   intro v y hp
   have hk : zBn (zBj x.ts.length x).2 = .error ((hdT (zBj x.ts.length x).2).i,3):=by
    unfold zBn
    rw [if_neg]
    unfold hdT
    rw [h1]
    show ¬ e.k = 2
    rw [hE.k]; decide
   rw [hk] at hp
   cases hp
 . obtain ⟨h3,h4⟩:=h2 hb
   rw [h3]
   refine LO.mono (b:=b) ?_ hab
   exact .then (zBV hE h4).lo fun _ _ _ _ hy => .then (zF6 hE _ _ hy) fun _ _ _ _ hz => .okk hz _
theorem typ_lo {a : List Tok} {x x' : PS} (h : J e r a x x') : LO e r a (typQ x) (typQ x'):=
 .then (inner_lo hE h) fun _ _ _ _ hy => .ite (fun _ => Iff.rfl) (fun _ => .err) fun _ => .okk hy _
theorem zII {v v' : PS -> PR D} (hv : ∀ {a : List Tok} {x x' : PS},J e r a x x' -> LO e r a (v x) (v' x')) : ∀ (f g : Nat) (acc : List D) {a : List Tok} {x x' : PS},f <= g -> J e r a x x' -> LS e r a (zGb v f acc x) (zGb v' g acc x')
 | 0,_,_,_,_,_,_,_ => .err
 | f + 1,0,_,_,_,_,hfg,_ => by omega
 | f + 1,g + 1,acc,a,x,x',hfg,h => by
   unfold zGb
   refine .ite (h.sg _) (fun hs => ?_) fun _ => .then (hv h) fun _ _ _ _ hy => zII hv f g _ (by omega) hy
   obtain ⟨t,a',rfl,h'⟩:=h.ne_of_isS hE hs
   exact .okn h' _
theorem zGh {v v' : PS -> PR D} (hv : ∀ {a : List Tok} {x x' : PS},J e r a x x' -> LO e r a (v x) (v' x')) : ∀ (f g : Nat) (ks : List (List UInt8)) (acc : List D) {a : List Tok} {x x' : PS},f <= g -> J e r a x x' -> LS e r a (zEh v f ks acc x) (zEh v' g ks acc x')
 | 0,_,_,_,_,_,_,_,_ => .err
 | f + 1,0,_,_,_,_,_,hfg,_ => by omega
 | f + 1,g + 1,ks,acc,a,x,x',hfg,h => by
   unfold zEh
   refine .ite (h.sg _) (fun hs => ?_) fun _ => .then (zBV hE h).lo fun k _ _ _ hy => .ite (fun _ => Iff.rfl) (fun _ => .err) fun _ => .then (zCQ hE hy _).lo fun _ _ _ _ hz => .then (hv hz) fun _ _ _ _ hu => zGh hv f g _ _ (by omega) hu
   obtain ⟨t,a',rfl,h'⟩:=h.ne_of_isS hE hs
   exact .okn h' _
theorem zD1 : ∀ (f lv : Nat) {a : List Tok} {x x' : PS},J e r a x x' -> LO e r a (zC8 f lv x) (zC8 f lv x')
 | 0,_,_,_,_,_ => .err
 | f + 1,lv,a,x,x',h => by
   by_cases ha : a = []
   . intro v y hp
     subst ha
     have hk:=h.k5 hE
     unfold zC8 at hp
     rw [if_pos (by unfold noVal; rw [hk]; rfl)] at hp
     cases hp
   . have hh:=h.hd ha
     have hn : noVal x' = noVal x:=by unfold noVal isS; rw [hh,h.vr]
     unfold zC8
     rw [hn,hh,h.nd]
     refine .ite (fun _ => Iff.rfl) (fun _ => .err) fun hno => ?_
     obtain ⟨t,a',rfl,h'⟩:=h.ne_of_k hE (fun hk => hno (by unfold noVal; rw [hk]; rfl))
     have hy : J e r a' { nxT x with nd:=x.nd + 1 } { nxT x' with nd:=x.nd + 1 }:=⟨h'.l,h'.r,h'.vr,rfl⟩
     have hlen : (nxT x).ts.length <= (nxT x').ts.length:=h'.len hE
     refine .ite (fun _ => Iff.rfl) (fun _ => .err) fun _ => .ite (fun _ => Iff.rfl) (fun _ => .err) fun _ => ?_
     dsimp only
     refine LO.mono (b:=a') ?_ ⟨[t],rfl⟩
     refine .ite (fun _ => Iff.rfl) (fun _ => .okk hy _) fun _ => .ite (fun _ => Iff.rfl) (fun _ => .okk hy _) fun _ => .ite (fun _ => Iff.rfl) (fun _ => .okk hy _) fun _ => .ite (fun _ => Iff.rfl) (fun _ => .then (zBV hE hy).lo fun _ _ _ _ hz => .okk hz _) fun _ => .ite (fun _ => Iff.rfl) (fun _ => ?_) fun _ => ?_
     . exact .then (zII hE (fun h => zD1 f (lv + 1) h) _ _ _ (by omega) hy).lo fun _ _ _ _ hz => .okk hz _
     . exact .then (zGh hE (fun h => zD1 f (lv + 1) h) _ _ _ _ (by omega) hy).lo fun _ _ _ _ hz => .okk hz _
theorem zFW {a : List Tok} {x x' : PS} (h : J e r a x x') : LO e r a (zE1 x) (zE1 x'):=zD1 hE _ _ ⟨h.l,h.r,h.vr,rfl⟩
theorem zIt : ∀ (f g : Nat) (acc : List D) {a : List Tok} {x x' : PS},f <= g -> J e r a x x' -> LS e r a (argsF f acc x) (argsF g acc x')
 | 0,_,_,_,_,_,_,_ => .err
 | f + 1,0,_,_,_,_,hfg,_ => by omega
 | f + 1,g + 1,acc,a,x,x',hfg,h => by
   unfold argsF
   refine .ite (fun ha => by rw [h.sg _ ha]) (fun hs => ?_) fun _ => .ite (fun ha => by rw [h.hd ha]) (fun _ => .err) fun _ => .then (zBV hE h).lo fun _ _ _ _ hy => .then (zCQ hE hy _).lo fun _ _ _ _ hz => .then (zFW hE hz) fun _ _ _ _ hu => zIt f g _ (by omega) hu
   obtain ⟨t,a',rfl,h'⟩:=h.ne_of_isS hE hs.2
   exact .okn h' _
theorem zHj {a : List Tok} {x x' : PS} (h : J e r a x x') : LO e r a (zHk x) (zHk x'):=by
 unfold zHk
 refine .ite (h.sg _) (fun hs => ?_) fun _ => .okk h _
 obtain ⟨t,a',rfl,h'⟩:=h.ne_of_isS hE hs
 exact (zIt hE _ _ _ (h.len hE) h').lo.mono ⟨[t],rfl⟩
theorem zIj : ∀ (f g : Nat) (acc : List D) {a : List Tok} {x x' : PS},f <= g -> J e r a x x' -> LO e r a (dirsF f acc x) (dirsF g acc x')
 | 0,_,_,_,_,_,_,_ => .err
 | f + 1,0,_,_,_,_,hfg,_ => by omega
 | f + 1,g + 1,acc,a,x,x',hfg,h => by
   unfold dirsF
   refine .ite (h.sg _) (fun hs => ?_) fun _ => .okk h _
   obtain ⟨t,a',rfl,h'⟩:=h.ne_of_isS hE hs
   exact LO.mono (b:=a') (.ite (fun _ => Iff.rfl) (fun _ => .err) fun _ => .then (zBV hE h').lo fun _ _ _ _ hy => .then (zHj hE hy) fun _ _ _ _ hz => zIj f g _ (by omega) hz) ⟨[t],rfl⟩
theorem zF1 {a : List Tok} {x x' : PS} (h : J e r a x x') : LO e r a (zHa x) (zHa x'):=zIj hE _ _ _ (by have:=h.len hE; omega) h
theorem sel_lo {v v' : PS -> PR (List D)} (hv : ∀ {a : List Tok} {x x' : PS},J e r a x x' -> LO e r a (v x) (v' x')) {a : List Tok} {x x' : PS} (h : J e r a x x') : LO e r a (selQ v x) (selQ v' x'):=by
 unfold selQ
 refine .ite (h.sg _) (fun hs => ?_) fun _ => ?_
 . obtain ⟨t,a',rfl,h'⟩:=h.ne_of_isS hE hs
   refine LO.mono (b:=a') ?_ ⟨[t],rfl⟩
   dsimp only
   refine .ite (fun ha => by rw [h'.hd ha]) (fun hk => ?_) fun _ => ?_
   . obtain ⟨t2,a2,rfl,h2⟩:=h'.ne_of_k hE (by rw [hk.1]; decide)
     rw [h'.hd (by simp)]
     exact LO.mono (b:=a2) (.then (zF1 hE h2) fun _ _ _ _ hz => .okk hz _) ⟨[t2],rfl⟩
   . refine .then (.ite (fun ha => by rw [h'.hd ha]) (fun hk => ?_) fun _ => .okk h' _) fun _ _ _ _ hz => .then (zF1 hE hz) fun _ _ _ _ hu => .then (hv hu) fun _ _ _ _ ho => .okk ho _
     obtain ⟨t2,a2,rfl,h2⟩:=h'.ne_of_k hE (by rw [hk]; decide)
     exact (zBV hE h2).lo.mono ⟨[t2],rfl⟩
 . refine .then (zBV hE h).lo fun n _ y y' hy => .then (.ite (hy.sg _) (fun hs => ?_) fun _ => .okk hy _) fun _ _ _ _ hz => .then (zHj hE hz) fun _ _ _ _ hu => .then (zF1 hE hu) fun _ _ _ _ hw => .then (.ite (hw.sg _) (fun _ => hv hw) fun _ => .okk hw _) fun _ _ _ _ ho => .okk ho _
   obtain ⟨t2,a2,rfl,h2⟩:=hy.ne_of_isS hE hs
   exact LO.mono (b:=a2) (.then (zBV hE h2).lo fun _ _ _ _ hz => .okk hz _) ⟨[t2],rfl⟩
theorem setF_ls {v v' : PS -> PR D} (hv : ∀ {a : List Tok} {x x' : PS},J e r a x x' -> LO e r a (v x) (v' x')) : ∀ (f g : Nat) (acc : List D) {a : List Tok} {x x' : PS},f <= g -> J e r a x x' -> LS e r a (setF v f acc x) (setF v' g acc x')
 | 0,_,_,_,_,_,_,_ => .err
 | f + 1,0,_,_,_,_,hfg,_ => by omega
 | f + 1,g + 1,acc,a,x,x',hfg,h => by
   unfold setF
   refine .ite (fun ha => by rw [h.sg _ ha]) (fun hs => ?_) fun _ => .ite (fun ha => by rw [h.hd ha,h.sg _ ha]) (fun _ => .err) fun _ => .then (hv h) fun _ _ _ _ hy => setF_ls hv f g _ (by omega) hy
   obtain ⟨t,a',rfl,h'⟩:=h.ne_of_isS hE hs.2
   exact .okn h' _
theorem zFh : ∀ (f lv : Nat) {a : List Tok} {x x' : PS},J e r a x x' -> LS e r a (zFi f lv x) (zFi f lv x')
 | 0,_,_,_,_,_ => .err
 | f + 1,lv,a,x,x',h => by
   unfold zFi
   refine .ite (fun ha => by rw [h.sg _ ha]) (fun _ => .err) fun _ => .then (zCQ hE h _).lo fun _ _ y y' hy => ?_
   exact setF_ls hE (fun h => sel_lo hE (fun h => (zFh f (lv + 1) h).lo) h) _ _ _ (by have:=hy.len hE; omega) hy
theorem set_ls {a : List Tok} {x x' : PS} (h : J e r a x x') : LS e r a (setQ x) (setQ x'):=zFh hE _ _ h
theorem zHr : ∀ (f g : Nat) (acc : List D) {a : List Tok} {x x' : PS},f <= g -> J e r a x x' -> LS e r a (varsF f acc x) (varsF g acc x')
 | 0,_,_,_,_,_,_,_ => .err
 | f + 1,0,_,_,_,_,hfg,_ => by omega
 | f + 1,g + 1,acc,a,x,x',hfg,h => by
   unfold varsF
   refine .ite (fun ha => by rw [h.sg _ ha]) (fun hs => ?_) fun _ => .ite (fun ha => by rw [h.sg _ ha]) (fun _ => .err) fun _ => .then (zCQ hE h _).lo fun _ _ _ _ hy => .then (zBV hE hy).lo fun _ _ _ _ hz => .then (zCQ hE hz _).lo fun _ _ _ _ hu => .then (typ_lo hE hu) fun _ _ v v' hv => .then (.ite (hv.sg _) (fun hs => ?_) fun _ => .okk hv _) fun _ _ _ _ ho => zHr f g _ (by omega) ho
   . obtain ⟨t,a',rfl,h'⟩:=h.ne_of_isS hE hs.2
     exact .okn h' _
   . obtain ⟨t,a',rfl,h'⟩:=hv.ne_of_isS hE hs
     exact LO.mono (b:=a') (.then (zFW hE (x:={ nxT v with vr:=false }) (x':={ nxT v' with vr:=false }) ⟨h'.l,h'.r,rfl,h'.nd⟩) fun _ _ o o' ho => .okk (x:={ o with vr:=true }) (x':={ o' with vr:=true }) ⟨ho.l,ho.r,rfl,ho.nd⟩ _) ⟨[t],rfl⟩
theorem op_ls (k : Int) {a : List Tok} {x x' : PS} (h : J e r a x x') : LS e r a (opQ k x) (opQ k x'):=by
 unfold opQ
 refine .then (.ite (fun ha => by rw [h.hd ha]) (fun hk => ?_) fun _ => .okk h _) fun _ _ y y' hy => .then (.ite (hy.sg _) (fun hs => ?_) fun _ => .okk hy _) fun _ _ _ _ hz => .pure (set_ls hE hz) fun _ _ u u' hu => ⟨_,u,u',rfl,rfl,hu⟩
 . obtain ⟨t,a',rfl,h'⟩:=h.ne_of_k hE (by rw [hk]; decide)
   rw [h.hd (by simp)]
   exact (LS.okn h' _).lo
 . obtain ⟨t,a',rfl,h'⟩:=hy.ne_of_isS hE hs
   exact (zHr hE _ _ _ (hy.len hE) h').lo.mono ⟨[t],rfl⟩
theorem frag_ls {a : List Tok} {x x' : PS} (h : J e r a x x') : LS e r a (fragQ x) (fragQ x'):=by
 unfold fragQ
 refine .ite (fun ha => by rw [h.hd ha]) (fun _ => .err) fun _ => .then (zBV hE h).lo fun _ _ y y' hy => .ite (fun ha => by rw [hy.hd ha]) (fun hk => ?_) fun _ => .err
 obtain ⟨t,a',rfl,h'⟩:=hy.ne_of_k hE (by rw [hk.1]; decide)
 refine LS.mono (b:=a') ?_ ⟨[t],rfl⟩
 exact .then (zBV hE h').lo fun _ _ _ _ hz => .pure (set_ls hE hz) fun _ _ u u' hu => ⟨_,u,u',rfl,rfl,hu⟩
end
def En (x : PS) : Prop:=∃ a e,x.ts = a ++ [e] /\ e.k = 5 /\ ∀ t ∈ x.ts,t.s.length <= 100000
theorem En.cons {x : PS} (h : En x) : ∃ t r,x.ts = t :: r:=by
 obtain ⟨a,e,h1,-⟩:=h
 rw [h1]
 cases a with
 | nil => exact ⟨e,[],rfl⟩
 | cons t a => exact ⟨t,a ++ [e],rfl⟩
theorem En.lo {α : Type} {x y : PS} {v : α} (h : En x) {p : PS -> PR α} (hp : ∀ {e : Tok} {a : List Tok} {x x' : PS},Ends e [e] -> J e [e] a x x' -> LO e [e] a (p x) (p x')) (hq : p x = .ok (v,y)) : En y /\ y.ts.length <= x.ts.length:=by
 obtain ⟨a,e,h1,h2,h4⟩:=h
 obtain ⟨b,⟨d,hd⟩,h3,-⟩:=hp (e:=e) (a:=a) (x:=x) (x':=x) ⟨h2,by simp⟩ ⟨h1,h1,rfl,rfl⟩ v y hq
 exact ⟨⟨b,e,h3,h2,fun t ht => h4 t (by rw [h1,hd]; rw [h3] at ht; simp at ht |-; exact .inr ht)⟩,by rw [h3,h1,hd]; simp⟩
theorem En.ls {α : Type} {x y : PS} {v : α} (h : En x) {p : PS -> PR α} (hp : ∀ {e : Tok} {a : List Tok} {x x' : PS},Ends e [e] -> J e [e] a x x' -> LS e [e] a (p x) (p x')) (hq : p x = .ok (v,y)) : En y /\ y.ts.length < x.ts.length:=by
 obtain ⟨a,e,h1,h2,h4⟩:=h
 obtain ⟨b,y',⟨t,d,hd⟩,-,h3⟩:=hp (e:=e) (a:=a) (x:=x) (x':=x) ⟨h2,by simp⟩ ⟨h1,h1,rfl,rfl⟩ v y hq
 exact ⟨⟨b,e,h3.l,h2,fun t ht => h4 t (by rw [h1,hd]; rw [h3.l] at ht; simp at ht |-; exact .inr (.inr ht))⟩,by rw [h3.l,h1,hd]; simp; omega⟩
theorem En.name {x y : PS} {v : List UInt8} (h : En x) (hq : zBn x = .ok (v,y)) : En y /\ y.ts.length < x.ts.length:=h.ls (p:=zBn) (fun hE h => zBV hE h) hq
theorem En.take {x y : PS} {s : List UInt8} (h : En x) (hq : zDZ s x = .ok ((),y)) : En y /\ y.ts.length < x.ts.length:=h.ls (p:=zDZ s) (fun hE h => zCQ hE h s) hq
theorem En.value {f lv : Nat} {x y : PS} {v : D} (h : En x) (hq : zC8 f lv x = .ok (v,y)) : En y /\ y.ts.length <= x.ts.length:=h.lo (p:=zC8 f lv) (fun hE h => zD1 hE f lv h) hq
theorem En.whole {x y : PS} {v : D} (h : En x) (hq : zE1 x = .ok (v,y)) : En y /\ y.ts.length <= x.ts.length:=h.lo (p:=zE1) (fun hE h => zFW hE h) hq
theorem En.args {x y : PS} {v : List D} (h : En x) (hq : zHk x = .ok (v,y)) : En y /\ y.ts.length <= x.ts.length:=h.lo (p:=zHk) (fun hE h => zHj hE h) hq
theorem En.dirs {x y : PS} {v : List D} (h : En x) (hq : zHa x = .ok (v,y)) : En y /\ y.ts.length <= x.ts.length:=h.lo (p:=zHa) (fun hE h => zF1 hE h) hq
theorem En.sel {f lv : Nat} {x y : PS} {v : D} (h : En x) (hq : selQ (zFi f lv) x = .ok (v,y)) : En y /\ y.ts.length <= x.ts.length:=h.lo (p:=selQ (zFi f lv)) (fun hE h => sel_lo hE (fun h => (zFh hE f lv h).lo) h) hq
theorem En.sels {f lv : Nat} {x y : PS} {v : List D} (h : En x) (hq : zFi f lv x = .ok (v,y)) : En y /\ y.ts.length < x.ts.length:=h.ls (p:=zFi f lv) (fun hE h => zFh hE f lv h) hq
theorem En.op {k : Int} {x y : PS} {v : D} (h : En x) (hq : opQ k x = .ok (v,y)) : En y /\ y.ts.length < x.ts.length:=h.ls (p:=opQ k) (fun hE h => op_ls hE k h) hq
theorem En.frag {x y : PS} {v : D} (h : En x) (hq : fragQ x = .ok (v,y)) : En y /\ y.ts.length < x.ts.length:=h.ls (p:=fragQ) (fun hE h => frag_ls hE h) hq
theorem En.nx {x : PS} (h : En x) (hk : (hdT x).k ≠ 5) : En (nxT x) /\ (nxT x).ts.length < x.ts.length:=by
 obtain ⟨a,e,h1,h2,h4⟩:=h
 have hJ : J e [e] a x x:=⟨h1,h1,rfl,rfl⟩
 obtain ⟨t,a',rfl,h3⟩:=hJ.ne_of_k (e:=e) (r:=[e]) ⟨h2,by simp⟩ hk
 exact ⟨⟨a',e,h3.l,h2,fun t ht => h4 t (by rw [h1]; rw [h3.l] at ht; simp at ht |-; exact .inr ht)⟩,by rw [h3.l,h1]; simp⟩
theorem En.hd {x : PS} (h : En x) : (hdT x).s.length <= 100000:=by
 obtain ⟨t,r,ht⟩:=h.cons
 obtain ⟨a,e,-,-,h4⟩:=h
 have : hdT x = t:=by unfold hdT; rw [ht]; rfl
 rw [this]
 exact h4 t (by rw [ht]; simp)
theorem En.sg {x : PS} {s : List UInt8} (h : En x) (hk : isS x s = true) : En (nxT x) /\ (nxT x).ts.length < x.ts.length:=by
 refine h.nx ?_
 unfold isS at hk
 simp only [Bool.and_eq_true,beq_iff_eq] at hk
 rw [hk.1]; decide
end Go.Proofs.YthjiclhfhjdjpaaGreatDoor
namespace Go.Proofs.YthjiclhfhjdjpaaGreatDoor
open Go.RowKit
attribute [local irreducible] wpList Calls Code.wp AW AWo OpOk seqK zAf zAh loopK endK AC zAD Yld Sub
attribute [local irreducible] ACB ACX absLexG YldG
theorem En.nd {x : PS} (h : En x) (n : Nat) (v : Bool) : En ⟨x.ts,v,n⟩:=h
theorem zFb {α β : Type} {r : PR α} {f : α -> PS -> PR β} {a : α} {x : PS} (h : r = .ok (a,x)) : zAX r f = f a x:=by rw [h]; rfl
theorem zD2 {α β : Type} {r : PR α} {f : α -> PS -> PR β} {e : Nat × Int} (h : r = .error e) : zAX r f = .error e:=by rw [h]; rfl
end Go.Proofs.YthjiclhfhjdjpaaGreatDoor
namespace Go.Proofs.YthjiclhfhjdjpaaGreatDoor
def Nz {α : Type} (r : PR α) : Prop:=∀ i,r ≠ .error (i,0)
section
variable {α β : Type}
theorem Nz.okk (p : α × PS) : Nz (.ok p : PR α):=fun i h => by cases h
theorem Nz.err {i : Nat} {e : Int} (h : e ≠ 0) : Nz (.error (i,e) : PR α):=fun j hj => by cases hj; exact h rfl
theorem Nz.ite {c : Prop} [Decidable c] {a b : PR α} (h1 : c -> Nz a) (h2 : ¬ c -> Nz b) : Nz (if c then a else b):=by
 split
 . exact h1 ‹_›
 . exact h2 ‹_›
theorem Nz.then {r : PR α} {f : α -> PS -> PR β} (h : Nz r) (hf : ∀ a x,r = .ok (a,x) -> Nz (f a x)) : Nz (zAX r f):=by
 cases hr : r with
 | error e =>
   rw [zD2 (r:=.error e) rfl]
   intro i hi
   cases hi
   exact h i hr
 | ok p =>
   obtain ⟨a,x⟩:=p
   rw [zFb (r:=.ok (a,x)) rfl]
   exact hf a x hr
end
def Mz {α : Type} (r : PR α) : Prop:=∀ i e,r = .error (i,e) -> 0 < e /\ e <= 100
section
variable {α β : Type}
theorem Mz.okk (p : α × PS) : Mz (.ok p : PR α):=fun i e h => by cases h
theorem Mz.err {i : Nat} {e : Int} (h : 0 < e /\ e <= 100) : Mz (.error (i,e) : PR α):=fun j e' hj => by cases hj; exact h
theorem Mz.ite {c : Prop} [Decidable c] {a b : PR α} (h1 : c -> Mz a) (h2 : ¬ c -> Mz b) : Mz (if c then a else b):=by
 split
 . exact h1 ‹_›
 . exact h2 ‹_›
theorem Mz.then {r : PR α} {f : α -> PS -> PR β} (h : Mz r) (hf : ∀ a x,r = .ok (a,x) -> Mz (f a x)) : Mz (zAX r f):=by
 cases hr : r with
 | error e =>
   rw [zD2 (r:=.error e) rfl]
   intro i e' hi
   cases hi
   exact h i e' hr
 | ok p =>
   obtain ⟨a,x⟩:=p
   rw [zFb (r:=.ok (a,x)) rfl]
   exact hf a x hr
end
def maxN (f : Nat -> Nat) : Nat -> Nat
 | 0 => 0
 | n + 1 => max (maxN f n) (f n)
def sizeR : Nat -> D -> Nat
 | 0,_ => 1
 | k + 1,d => 1 + sumN (fun i => sizeR k (gD (d.f 3).l i)) (d.f 3).l.length
def depthR : Nat -> D -> Nat
 | 0,_ => 1
 | k + 1,d => maxN (fun i => depthR k (gD (d.f 3).l i)) (d.f 3).l.length + 1
def strsR (d : D) : List (List UInt8):=(d.f 4).l.map fun x => x.s.data.toList
def enumR (s : ByteArray) : Bool:=nameB s && !(s.data.toList == [116,114,117,101]) && !(s.data.toList == [102,97,108,115,101]) && !(s.data.toList == [110,117,108,108])
def nodeK (n i : Int) (t : Bool) (a b : Nat) (x v ks y : Bool) : Bool:=
 (n == 1 || n == 2 || i == 0) && (n == 3 || n == 4 || n == 7 || t) && (n == 6 || a == 0) && (n == 6 || n == 5 || b == 0) && decide (0 <= n /\ n <= 7) && (!(n == 1) || i == 0 || i == 1) && (!(n == 4) || x) && (!(n == 7) || v) && (!(n == 6) || (ks && a == b && y))
def nodeL (d : D) : Bool:=
 nodeK (d.f 0).n (d.f 1).n ((d.f 2).s.data.toList == []) (d.f 4).l.length (d.f 3).l.length (enumR (d.f 2).s) (nameB (d.f 2).s) (!((d.f 4).l.any fun x => !nameB x.s)) (decide (strsR d).Nodup)
def everyL : Nat -> D -> Bool
 | 0,_ => false
 | k + 1,d => nodeL d && !((d.f 3).l.any fun x => !everyL k x)
def litR (d : D) : Bool:=decide (sizeR (bulkD d) d <= 4096) && decide (depthR (bulkD d) d <= 24) && everyL (bulkD d) d
def bareR : Nat -> D -> Bool
 | 0,_ => false
 | k + 1,d => !((d.f 0).n == 7) && !((d.f 3).l.any fun x => !bareR k x)
def argR (d : D) : Bool:=nameB (d.f 0).s && litR (d.f 1)
def argsR (l : List D) : Bool:=decide (l.length <= 16) && !(l.any fun x => !argR x)
def dirR (d : D) : Bool:=nameB (d.f 0).s && argsR (d.f 1).l
def dirsR (l : List D) : Bool:=decide (l.length <= 16) && !(l.any fun x => !dirR x)
def titleR (s : ByteArray) : Bool:=nameB s && !(s.data.toList == [111,110])
def noneS (s : ByteArray) : Bool:=s.data.toList == []
def selsR (sel : D -> Bool) (l : List D) (least lv : Nat) : Bool:=decide (least <= l.length) && decide (l.length <= 64) && (decide (l.length = 0) || decide (lv <= 24)) && !(l.any fun x => !sel x)
def selR : Nat -> Nat -> D -> Bool
 | 0,_,_ => false
 | k + 1,lv,d => argsR (d.f 4).l && dirsR (d.f 5).l &&
   (if (d.f 0).n = 1 then noneS (d.f 3).s && nameB (d.f 2).s && (noneS (d.f 1).s || nameB (d.f 1).s) && selsR (selR k (lv + 1)) (d.f 6).l 0 (lv + 1)
   else if (d.f 0).n = 2 then noneS (d.f 3).s && noneS (d.f 1).s && decide ((d.f 4).l.length = 0) && decide ((d.f 6).l.length = 0) && titleR (d.f 2).s
   else if (d.f 0).n = 3 then noneS (d.f 1).s && noneS (d.f 2).s && decide ((d.f 4).l.length = 0) && (noneS (d.f 3).s || nameB (d.f 3).s) && selsR (selR k (lv + 1)) (d.f 6).l 1 (lv + 1)
   else false)
def setR (l : List D) : Bool:=selsR (selR (bulkL l) 1) l 1 1
def zE0 : List Int -> Bool
 | [] => true
 | [w] => w == 1 || w == 2
 | w :: v :: r => (w == 1 || w == 2) && !(w == 1 && v == 1) && zE0 (v :: r)
def refR (d : D) : Bool:=nameB (d.f 0).s && decide ((d.f 1).l.length <= 24) && zE0 ((d.f 1).l.map D.n)
def varR (d : D) : Bool:=nameB (d.f 0).s && refR (d.f 1) &&
 (if (d.f 2).b = true then litR (d.f 3) && bareR (bulkD (d.f 3)) (d.f 3)
 else (((d.f 3).f 0).n == 0 && ((d.f 3).f 1).n == 0 && noneS ((d.f 3).f 2).s && decide (((d.f 3).f 3).l.length = 0)) && decide (((d.f 3).f 4).l.length = 0))
def opR (d : D) : Bool:=decide (1 <= (d.f 0).n /\ (d.f 0).n <= 3) && (noneS (d.f 1).s || nameB (d.f 1).s) && decide ((d.f 2).l.length <= 16) && !((d.f 2).l.any fun x => !varR x) && setR (d.f 3).l
def fragR (d : D) : Bool:=titleR (d.f 0).s && nameB (d.f 1).s && setR (d.f 2).l
def queR (d : D) : Bool:=decide (1 <= (d.f 0).l.length + (d.f 1).l.length /\ (d.f 0).l.length + (d.f 1).l.length <= 64) && (d.f 0).l.all opR && !((d.f 1).l.any fun x => !fragR x)
end Go.Proofs.YthjiclhfhjdjpaaGreatDoor
namespace Go.Proofs.YthjiclhfhjdjpaaGreatDoor
open Go.RowKit
set_option linter.unusedSectionVars false
section
variable {X : Cx} {nn : Nat} {st : Vst nn} {o : Oper} {ops : Array Oper} {l : List Oper} {dst : Option Tmp} {KK : Vst nn -> Prop}
theorem s_max {k : IntKind} {a b : Int} {x y : Operand} {ts : Array TypeId} (hg : o.guard = none) (ho : o.op = .call { callee:=.builtin .max,args:=#[x,y],argTypes:=ts }) (hd : o.dst = dst) (hx : ev st x = .c (.int k a)) (hy : ev st y = .c (.int k b)) (hK : AWo X ops l (st.put dst (.c (.int k (if a < b then b else a)))) KK) : AWo X ops (o :: l) st KK:=by
 refine zAm hg ?_
 intro s w a' hI N Q hP hN
 have r1:=hI.ev x
 have r2:=hI.ev y
 rw [hx,rel] at r1
 rw [hy,rel] at r2
 have h1 : (execOp a'.eval o).run X.P w = .ok (.value (.int k (if a < b then b else a))) w:=by
  simp [execOp,ho,resolve,invoke,builtin,Builtin.max_,Builtin.max2,r1.1,r2.1]
 unfold Oper.wp
 rw [h1,Oper.upon_value]
 refine hN _ _ _ _ (hI.put o.dst ?_) (by rw [hd]; exact hK)
 rw [rel]
 refine ⟨rfl,?_⟩
 split
 . exact r2.2
 . exact r1.2
end
attribute [local irreducible] wpList Calls Code.wp AW AWo OpOk seqK zAf zAh loopK endK AC zAD Yld Sub
attribute [local irreducible] ACB ACX absLexG YldG
structure BkIn (d : D) (B : Nat) : Prop where
 text : (d.f 2).s.size <= B
 keys : (d.f 4).l.length <= B
 items : (d.f 3).l.length <= B
 at_ : ∀ i,i < (d.f 3).l.length -> bulkD (gD (d.f 3).l i) < bulkD d
 key : ∀ i,i < (d.f 4).l.length -> (gD (d.f 4).l i).s.size <= B
theorem zA3 : ∀ l : List D,l.length <= bulkL l
 | [] => Nat.le_refl _
 | x :: r => by
   have:=zA3 r
   have:=zAy x
   simp only [bulkL,List.length_cons]; omega
theorem bk_in {d : D} {B : Nat} (h : bulkD d <= B) : BkIn d B:=by
 have h0:=zZ d
 have h2:=zAG (d.f 2)
 have h2':=wD_f d 2
 have h3:=z7 (d.f 3)
 have h3':=wD_f d 3
 have h4:=z7 (d.f 4)
 have h4':=wD_f d 4
 have l3:=zA3 (d.f 3).l
 have l4:=zA3 (d.f 4).l
 refine ⟨by omega,by omega,by omega,fun i hi => by have:=zBF hi; omega,fun i hi => ?_⟩
 have:=zBF hi
 have:=zAG (gD (d.f 4).l i)
 have:=zZ (gD (d.f 4).l i)
 omega
theorem zHy : ∀ (k : Nat) (d : D),sizeR k d <= bulkD d
 | 0,d => zAy d
 | k + 1,d => by
   have h:=zEK (f:=fun i => sizeR k (gD (d.f 3).l i)) (g:=fun i => bulkD (gD (d.f 3).l i)) (n:=(d.f 3).l.length) fun i _ => zHy k _
   rw [<- zBG] at h
   have h3:=z7 (d.f 3)
   have h3':=wD_f d 3
   have h0:=zZ d
   show 1 + sumN (fun i => sizeR k (gD (d.f 3).l i)) (d.f 3).l.length <= _
   omega
theorem maxN_le {g : Nat -> Nat} {B : Nat} : ∀ {n : Nat},(∀ i,i < n -> g i <= B) -> maxN g n <= B
 | 0,_ => Nat.zero_le _
 | n + 1,h => Nat.max_le.2 ⟨maxN_le fun i hi => h i (by omega),h n (by omega)⟩
theorem zGr : ∀ (k : Nat) (d : D),depthR k d <= bulkD d
 | 0,d => zAy d
 | k + 1,d => by
   have h : maxN (fun i => depthR k (gD (d.f 3).l i)) (d.f 3).l.length <= bulkL (d.f 3).l:=maxN_le fun i hi => Nat.le_trans (zGr k _) (zAH hi)
   have h3:=z7 (d.f 3)
   have h3':=wD_f d 3
   have h0:=zZ d
   show maxN (fun i => depthR k (gD (d.f 3).l i)) (d.f 3).l.length + 1 <= _
   omega
theorem max_i (a b : Nat) : (if (a : Int) < (b : Int) then (b : Int) else (a : Int)) = ((max a b : Nat) : Int):=by
 split <;> omega
end Go.Proofs.YthjiclhfhjdjpaaGreatDoor
namespace Go.Proofs.YthjiclhfhjdjpaaGreatDoor
def tw : List Tok -> Nat
 | [] => 0
 | t :: r => t.s.length + 40 + tw r
def Bd {α : Type} (μ : α -> Nat) (N : Nat) (r : PR α) : Prop:=∀ v y,r = .ok (v,y) -> μ v + tw y.ts <= N
section
variable {α β : Type} {μ : α -> Nat} {ν : β -> Nat} {N M : Nat}
theorem Bd.okk {v : α} {y : PS} (h : μ v + tw y.ts <= N) : Bd μ N (.ok (v,y) : PR α):=fun _ _ e => by cases e; exact h
theorem Bd.err {e : Nat × Int} : Bd μ N (.error e : PR α):=fun _ _ h => by cases h
theorem Bd.ite {c : Prop} [Decidable c] {a b : PR α} (h1 : c -> Bd μ N a) (h2 : ¬ c -> Bd μ N b) : Bd μ N (if c then a else b):=by
 split
 . exact h1 ‹_›
 . exact h2 ‹_›
theorem Bd.then {r : PR α} {f : α -> PS -> PR β} (h : Bd μ N r) (hf : ∀ a x,μ a + tw x.ts <= N -> Bd ν M (f a x)) : Bd ν M (zAX r f):=by
 cases hr : r with
 | error e =>
   rw [zD2 (r:=.error e) rfl]
   exact .err
 | ok p =>
   obtain ⟨a,x⟩:=p
   rw [zFb (r:=.ok (a,x)) rfl]
   exact hf a x (h a x hr)
end
def sl (s : List UInt8) : Nat:=s.length + 40
section
variable {v : PS -> PR D} (hv : ∀ y,Bd bulkD (tw y.ts) (v y))
include hv
end
end Go.Proofs.YthjiclhfhjdjpaaGreatDoor
namespace Go.Proofs.YthjiclhfhjdjpaaGreatDoor
open Go.RowKit
set_option linter.unusedSectionVars false
attribute [local irreducible] wpList Calls Code.wp AW AWo OpOk seqK zAf zAh loopK endK AC zAD Yld Sub
attribute [local irreducible] ACB ACX absLexG YldG
theorem zE4 (s : ByteArray) (l : List UInt8) : (s.toList == (⟨l.toArray⟩ : ByteArray).toList) = (s.data.toList == l):=by
 rw [Lib.toList_data,Lib.toList_data]
structure SelB (d : D) (B : Nat) : Prop where
 s1 : (d.f 1).s.size <= B
 s2 : (d.f 2).s.size <= B
 s3 : (d.f 3).s.size <= B
 l4 : bulkL (d.f 4).l <= B
 l5 : bulkL (d.f 5).l <= B
 l6 : bulkL (d.f 6).l < bulkD d
 l6B : bulkL (d.f 6).l <= B
theorem sel_b {d : D} {B : Nat} (h : bulkD d <= B) : SelB d B:=by
 have h0:=zZ d
 have q:=fun i => wD_f d i
 have q1:=q 1; have q2:=q 2; have q3:=q 3; have q4:=q 4; have q5:=q 5; have q6:=q 6
 have s1:=zAG (d.f 1); have s2:=zAG (d.f 2); have s3:=zAG (d.f 3)
 have l4:=z7 (d.f 4); have l5:=z7 (d.f 5); have l6:=z7 (d.f 6)
 exact ⟨by omega,by omega,by omega,by omega,by omega,by omega,by omega⟩
theorem zD6 (s : ByteArray) : (s.toList == ({ data:=#[] } : ByteArray).toList) = noneS s:=zE4 s []
end Go.Proofs.YthjiclhfhjdjpaaGreatDoor
namespace Go.Proofs.YthjiclhfhjdjpaaGreatDoor
open Go.RowKit
set_option linter.unusedSectionVars false
attribute [local irreducible] wpList Calls Code.wp AW AWo OpOk seqK zAf zAh loopK endK AC zAD Yld Sub
attribute [local irreducible] ACB ACX absLexG YldG absLexH
theorem zCA {i n : Nat} (h : i < n) : 0 <= (i : Int) /\ (i : Int) < (n : Int):=⟨Int.natCast_nonneg i,Int.ofNat_lt.2 h⟩
def wrapsI (l : List D) : Nat -> Nat -> Bool
 | 0,_ => true
 | j + 1,i => ((gD l i).n == 1 || (gD l i).n == 2) && !((gD l i).n == 1 && decide (0 < i) && (gD l (i - 1)).n == (gD l i).n) && wrapsI l j (i + 1)
theorem zEE (x : D) (l : List D) : ∀ (j i : Nat),wrapsI (x :: l) j (i + 2) = wrapsI l j (i + 1)
 | 0,_ => rfl
 | j + 1,i => by
   unfold wrapsI
   rw [zEE x l j (i + 1)]
   have e1 : gD (x :: l) (i + 2) = gD l (i + 1):=rfl
   have e2 : gD (x :: l) (i + 2 - 1) = gD l (i + 1 - 1):=rfl
   have e3 : decide (0 < i + 2) = decide (0 < i + 1):=by simp
   rw [e1,e2,e3]
theorem zHq : ∀ l : List D,wrapsI l l.length 0 = zE0 (l.map D.n)
 | [] => rfl
 | [x] => by
   show (((x.n == 1 || x.n == 2) && !(x.n == 1 && decide (0 < 0) && _)) && true) = (x.n == 1 || x.n == 2)
   simp
 | x :: y :: r => by
   have ih:=zHq (y :: r)
   show (((x.n == 1 || x.n == 2) && !(x.n == 1 && decide (0 < 0) && _)) && wrapsI (x :: y :: r) (r.length + 1) 1) = ((x.n == 1 || x.n == 2) && !(x.n == 1 && y.n == 1) && zE0 (y.n :: r.map D.n))
   have e : wrapsI (x :: y :: r) (r.length + 1) 1 = (((y.n == 1 || y.n == 2) && !(y.n == 1 && true && (x.n == y.n))) && wrapsI (y :: r) r.length 1):=by
    show (((y.n == 1 || y.n == 2) && !(y.n == 1 && true && (x.n == y.n))) && wrapsI (x :: y :: r) r.length 2) = _
    rw [zEE]
   have e2 : wrapsI (y :: r) (y :: r).length 0 = (((y.n == 1 || y.n == 2) && !(y.n == 1 && decide (0 < 0) && false)) && wrapsI (y :: r) r.length 1):=by
    show (((y.n == 1 || y.n == 2) && !(y.n == 1 && decide (0 < 0) && _)) && wrapsI (y :: r) r.length 1) = _
    simp
   rw [e]
   rw [e2] at ih
   have ih2 : zE0 (y.n :: r.map D.n) = (((y.n == 1 || y.n == 2) && !(y.n == 1 && decide (0 < 0) && false)) && wrapsI (y :: r) r.length 1):=ih.symm
   rw [ih2]
   generalize wrapsI (y :: r) r.length 1 = q
   cases hy : (y.n == 1)
   . generalize (x.n == 1) = a1
     generalize (x.n == 2) = a2
     generalize (y.n == 2) = a3
     generalize (x.n == y.n) = a4
     cases a1 <;> cases a2 <;> cases a3 <;> cases a4 <;> cases q <;> rfl
   . have hy' : y.n = 1:=by simpa using hy
     rw [hy']
     generalize (x.n == 1) = a1
     generalize (x.n == 2) = a2
     cases a1 <;> cases a2 <;> cases q <;> rfl
theorem zAk (s : ByteArray) (hs : s.size <= 1000000000) : AC EN Tryz.prog 66 [.c (.string s)] (.c (.bool (nameB s))):=by
 refine zGA (r:=.bool (nameB s)) fun σ w us hus _ => ?_
 obtain ⟨rfl,-⟩:=str_arg hus
 refine ⟨trivial,(nameR s w (by omega)).mono ?_⟩
 rintro e w' ⟨rfl,rfl⟩
 exact ⟨rfl,Below.refl _ _⟩
noncomputable def HSf (d : D) (n i : Nat) : Vst 21:=stS 21 [(1,.bx 1 0),(3,.c (.int .i64 (n : Int))),(4,.c (.int .i64 (i : Int)))] [(1,.box 84 (cellsV Tryz.prog 12 84 d))]
theorem zHz : ∀ (k : Nat) (d : D),Dp k d -> bulkD d <= 1000000000 -> AC EN Tryz.prog 126 [.agg (cellsV Tryz.prog 12 84 d)] (.c (.int .i64 (sizeR k d : Int)))
 | 0,_,h,_ => h.elim
 | k + 1,d,h,hw => by
   have hin:=bk_in hw
   have hl:=hin.items
   have ih:=fun i (hi : i < (d.f 3).l.length) => zHz k (gD (d.f 3).l i) (h i hi) (by have:=hin.at_ i hi; omega)
   have hsw:=zHy (k + 1) d
   have hs : sizeR (k + 1) d = 1 + sumN (fun i => sizeR k (gD (d.f 3).l i)) (d.f 3).l.length:=rfl
   refine zO 21 Tryz.func126 rfl rfl rfl rfl ?_
   intro s w he
   repeat' (first
|refine zB ?_
|refine zC ?_
|refine zQ ?_
|apply aw_1
 conv => whnf
 refine ⟨?_,trivial⟩
|apply s_1
 conv => whnf; arg 1; arg 4; arg 3; whnf
 refine ⟨?_,?_⟩
|apply zAN rfl rfl rfl rfl
 . conv => lhs; whnf; arg 1; whnf
 . rfl
|exact trivial)
   refine zv (fun j st => ∃ i,i + j = (d.f 3).l.length /\ Sub (cx EN Tryz.prog s w he) st (HSf d (1 + sumN (fun i => sizeR k (gD (d.f 3).l i)) i) i)) (d.f 3).l.length ⟨0,by omega,Sub.live ⟨rfl,rfl,rfl,trivial⟩ ⟨rfl,trivial⟩⟩ ?_
   rintro j st ⟨i,hij,hs2⟩
   refine zu hs2 ?_
   clear hs2
   by_cases hi : i < (d.f 3).l.length
   . have f0 : decide ((i : Int) < ((d.f 3).l.length : Nat)) = true:=decide_eq_true (by omega)
     have ih2:=ih i hi
     have hle:=zBg (fun i => sizeR k (gD (d.f 3).l i)) (show i + 1 <= (d.f 3).l.length from hi)
     have hss : sumN (fun i => sizeR k (gD (d.f 3).l i)) (i + 1) = sumN (fun i => sizeR k (gD (d.f 3).l i)) i + sizeR k (gD (d.f 3).l i):=rfl
     repeat' (first
|apply zK
 . conv => lhs; whnf
 . assumption
|refine zB ?_
|refine zC ?_
|refine zQ ?_
|refine zU ?_
|apply aw_1
 conv => whnf
 refine ⟨?_,trivial⟩
|apply s_1
 conv => whnf; arg 1; arg 4; arg 3; whnf
 refine ⟨?_,?_⟩
|apply zl rfl
 . conv => lhs; whnf
 . conv => lhs; whnf
 . first | exact ih2
|exact trivial)
     all_goals first
      | exact zo (by omega)
      | exact zCA hi
      | (refine zF (j':=j - 1) (by omega) ⟨i + 1,by omega,Sub.live ⟨rfl,?_,rfl,trivial⟩ ⟨rfl,trivial⟩⟩
         refine congrArg (fun n => V.c (.int .i64 n)) (?_ : ((1 + sumN (fun i => sizeR k (gD (d.f 3).l i)) i : Nat) : Int) + (sizeR k (gD (d.f 3).l i) : Int) = ((1 + sumN (fun i => sizeR k (gD (d.f 3).l i)) (i + 1) : Nat) : Int))
         rw [hss]; omega)
   . have f0 : decide ((i : Int) < ((d.f 3).l.length : Nat)) = false:=decide_eq_false (by omega)
     repeat' (first
|apply zM
 . conv => lhs; whnf
 . assumption
|refine zB ?_
|refine zC ?_
|refine zQ ?_
|apply aw_1
 conv => whnf
 refine ⟨?_,trivial⟩
|apply s_1
 conv => whnf; arg 1; arg 4; arg 3; whnf
 refine ⟨?_,?_⟩
|refine zI ?_
|refine zE rfl ?_
|refine zG ?_
|refine zD ?_
|refine ⟨_,by conv => lhs; whnf; arg 2; whnf,?_⟩; conv => rhs; whnf
|exact trivial)
     rw [hs,show i = (d.f 3).l.length by omega]
noncomputable def HDf (d : D) (n i : Nat) : Vst 22:=stS 22 [(1,.bx 1 0),(3,.c (.int .i64 (n : Int))),(4,.c (.int .i64 (i : Int)))] [(1,.box 84 (cellsV Tryz.prog 12 84 d))]
theorem zGs : ∀ (k : Nat) (d : D),Dp k d -> bulkD d <= 1000000000 -> AC EN Tryz.prog 211 [.agg (cellsV Tryz.prog 12 84 d)] (.c (.int .i64 (depthR k d : Int)))
 | 0,_,h,_ => h.elim
 | k + 1,d,h,hw => by
   have hin:=bk_in hw
   have hl:=hin.items
   have ih:=fun i (hi : i < (d.f 3).l.length) => zGs k (gD (d.f 3).l i) (h i hi) (by have:=hin.at_ i hi; omega)
   have hsw:=zGr (k + 1) d
   have hs : depthR (k + 1) d = maxN (fun i => depthR k (gD (d.f 3).l i)) (d.f 3).l.length + 1:=rfl
   refine zO 22 Tryz.func211 rfl rfl rfl rfl ?_
   intro s w he
   repeat' (first
|refine zB ?_
|refine zC ?_
|refine zQ ?_
|apply aw_1
 conv => whnf
 refine ⟨?_,trivial⟩
|apply s_1
 conv => whnf; arg 1; arg 4; arg 3; whnf
 refine ⟨?_,?_⟩
|apply zAN rfl rfl rfl rfl
 . conv => lhs; whnf; arg 1; whnf
 . rfl
|exact trivial)
   refine zv (fun j st => ∃ i,i + j = (d.f 3).l.length /\ Sub (cx EN Tryz.prog s w he) st (HDf d (maxN (fun i => depthR k (gD (d.f 3).l i)) i) i)) (d.f 3).l.length ⟨0,by omega,Sub.live ⟨rfl,rfl,rfl,trivial⟩ ⟨rfl,trivial⟩⟩ ?_
   rintro j st ⟨i,hij,hs2⟩
   refine zu hs2 ?_
   clear hs2
   by_cases hi : i < (d.f 3).l.length
   . have f0 : decide ((i : Int) < ((d.f 3).l.length : Nat)) = true:=decide_eq_true (by omega)
     have ih2:=ih i hi
     repeat' (first
|apply s_max rfl rfl rfl
 . conv => lhs; whnf; arg 1; whnf
 . conv => lhs; whnf; arg 1; whnf
|apply zK
 . conv => lhs; whnf
 . assumption
|refine zB ?_
|refine zC ?_
|refine zQ ?_
|refine zU ?_
|apply aw_1
 conv => whnf
 refine ⟨?_,trivial⟩
|apply s_1
 conv => whnf; arg 1; arg 4; arg 3; whnf
 refine ⟨?_,?_⟩
|apply zl rfl
 . conv => lhs; whnf
 . conv => lhs; whnf
 . first | exact ih2
|exact trivial)
     all_goals first
      | exact zo (by omega)
      | exact zCA hi
      | (refine zF (j':=j - 1) (by omega) ⟨i + 1,by omega,Sub.live ⟨rfl,?_,rfl,trivial⟩ ⟨rfl,trivial⟩⟩
         refine congrArg (fun n => V.c (.int .i64 n)) (?_ : (if ((maxN (fun i => depthR k (gD (d.f 3).l i)) i : Nat) : Int) < (depthR k (gD (d.f 3).l i) : Int) then (depthR k (gD (d.f 3).l i) : Int) else ((maxN (fun i => depthR k (gD (d.f 3).l i)) i : Nat) : Int)) = ((maxN (fun i => depthR k (gD (d.f 3).l i)) (i + 1) : Nat) : Int))
         rw [max_i]; rfl)
   . have f0 : decide ((i : Int) < ((d.f 3).l.length : Nat)) = false:=decide_eq_false (by omega)
     have e : i = (d.f 3).l.length:=by omega
     subst e
     repeat' (first
|apply zM
 . conv => lhs; whnf
 . assumption
|refine zB ?_
|refine zC ?_
|refine zQ ?_
|apply aw_1
 conv => whnf
 refine ⟨?_,trivial⟩
|apply s_1
 conv => whnf; arg 1; arg 4; arg 3; whnf
 refine ⟨?_,?_⟩
|refine zI ?_
|refine zE rfl ?_
|refine zG ?_
|refine zD ?_
|refine ⟨_,by conv => lhs; whnf; arg 2; whnf,?_⟩; conv => rhs; whnf
|exact trivial)
     . rfl
     . exact zo (by omega)
def eqSt (l : List D) (i k : Nat) : Bool:=(gD l i).s.toList == (gD l k).s.toList
def innT (l : List D) (i : Nat) : Nat -> Nat -> Bool
 | 0,_ => false
 | j + 1,k => eqSt l i k || innT l i j (k + 1)
def outT (l : List D) : Nat -> Nat -> Bool
 | 0,_ => false
 | j + 1,i => innT l i i 0 || outT l j (i + 1)
theorem zIK (l : List D) (i : Nat) : ∀ (j k : Nat),innT l i j k = true ↔ ∃ m,k <= m /\ m < k + j /\ eqSt l i m = true
 | 0,k => by simp only [innT,Bool.false_eq_true,false_iff]; rintro ⟨m,h1,h2,-⟩; omega
 | j + 1,k => by
   rw [innT,Bool.or_eq_true,zIK l i j (k + 1)]
   constructor
   . rintro (h | ⟨m,h1,h2,h3⟩)
     . exact ⟨k,Nat.le_refl _,by omega,h⟩
     . exact ⟨m,by omega,by omega,h3⟩
   . rintro ⟨m,h1,h2,h3⟩
     by_cases e : m = k
     . subst e; exact .inl h3
     . exact .inr ⟨m,by omega,by omega,h3⟩
theorem zH8 (l : List D) : ∀ (j i : Nat),outT l j i = true ↔ ∃ m,i <= m /\ m < i + j /\ ∃ k,k < m /\ eqSt l m k = true
 | 0,i => by simp only [outT,Bool.false_eq_true,false_iff]; rintro ⟨m,h1,h2,-⟩; omega
 | j + 1,i => by
   rw [outT,Bool.or_eq_true,zH8 l j (i + 1),zIK]
   constructor
   . rintro (⟨k,h1,h2,h3⟩ | ⟨m,h1,h2,h3⟩)
     . exact ⟨i,Nat.le_refl _,by omega,k,by omega,h3⟩
     . exact ⟨m,by omega,by omega,h3⟩
   . rintro ⟨m,h1,h2,k,h3,h4⟩
     by_cases e : m = i
     . subst e; exact .inl ⟨k,by omega,by omega,h4⟩
     . exact .inr ⟨m,by omega,by omega,k,h3,h4⟩
theorem outT_R (d : D) : outT (d.f 4).l (d.f 4).l.length 0 = !decide (strsR d).Nodup:=by
 rw [Bool.eq_iff_iff,zH8,Bool.not_eq_true',decide_eq_false_iff_not]
 have hlen : (strsR d).length = (d.f 4).l.length:=by simp [strsR]
 have hg : ∀ i (h : i < (d.f 4).l.length),(strsR d)[i]'(by rw [hlen]; exact h) = (gD (d.f 4).l i).s.data.toList:=fun i h => by
  simp only [strsR,List.getElem_map]
  rw [gD,List.getD_eq_getElem?_getD,List.getElem?_eq_getElem h]; rfl
 have he : ∀ i k,eqSt (d.f 4).l i k = true ↔ (gD (d.f 4).l i).s.data.toList = (gD (d.f 4).l k).s.data.toList:=fun i k => by
  unfold eqSt; rw [Lib.toList_data,Lib.toList_data,beq_iff_eq]
 constructor
 . rintro ⟨m,-,h2,k,h3,h4⟩ hn
   have h5:=List.pairwise_iff_getElem.1 hn k m (by omega) (by omega) h3
   rw [hg k (by omega),hg m (by omega)] at h5
   exact h5 ((he m k).1 h4).symm
 . intro hn
   refine Classical.byContradiction fun hc => hn (List.pairwise_iff_getElem.2 fun k m hk hm hkm hq => hc ⟨m,Nat.zero_le _,by omega,k,hkm,?_⟩)
   rw [hg k (by omega),hg m (by omega)] at hq
   exact (he m k).2 hq.symm
noncomputable def HTo (l : List D) (i : Nat) : Vst 25:=stS 25 [(0,.sl 9 l),(3,.c (.int .i64 (i : Int)))] []
noncomputable def HTi (l : List D) (i k : Nat) : Vst 25:=stS 25 [(0,.sl 9 l),(3,.c (.int .i64 (i : Int))),(4,.c (.int .i64 (k : Int)))] []
theorem twiceF_ac (d : D) (hl : (d.f 4).l.length <= 1000000000) : AC EN Tryz.prog 329 [.sl 9 (d.f 4).l] (.c (.bool (!decide (strsR d).Nodup))):=by
 have hR:=outT_R d
 generalize (!decide (strsR d).Nodup) = R at hR |-
 generalize (d.f 4).l = l at hR hl |-
 refine zO 25 Tryz.func329 rfl rfl rfl rfl ?_
 intro s w he
 repeat' (first
|refine zB ?_
|refine zC ?_
|refine zQ ?_
|apply aw_1
 conv => whnf
 refine ⟨?_,trivial⟩
|apply s_1
 conv => whnf; arg 1; arg 4; arg 3; whnf
 refine ⟨?_,?_⟩
|exact trivial)
 refine zv (fun j st => ∃ i,i + j = l.length /\ outT l j i = R /\ Sub (cx EN Tryz.prog s w he) st (HTo l i)) l.length ⟨0,by omega,hR,Sub.live ⟨rfl,rfl,trivial⟩ trivial⟩ ?_
 clear hR
 rintro j st ⟨i,hij,hR,hs2⟩
 refine zu hs2 ?_
 clear hs2
 by_cases hi : i < l.length
 . obtain ⟨j,rfl⟩ : ∃ q,j = q + 1:=⟨j - 1,by omega⟩
   have f1 : decide ((i : Int) < (l.length : Nat)) = true:=decide_eq_true (by omega)
   have hR' : (innT l i i 0 || outT l j (i + 1)) = R:=hR
   clear hR
   repeat' (first
|apply zK
 . conv => lhs; whnf
 . assumption
|refine zB ?_
|refine zC ?_
|refine zQ ?_
|apply aw_1
 conv => whnf
 refine ⟨?_,trivial⟩
|apply s_1
 conv => whnf; arg 1; arg 4; arg 3; whnf
 refine ⟨?_,?_⟩
|exact trivial)
   refine zv (fun jj st => ∃ k,k + jj = i /\ (innT l i jj k || outT l j (i + 1)) = R /\ Sub (cx EN Tryz.prog s w he) st (HTi l i k)) i ⟨0,by omega,hR',Sub.live ⟨rfl,rfl,rfl,trivial⟩ trivial⟩ ?_
   clear hR'
   rintro jj st ⟨k,hk,hR,hs2⟩
   refine zu hs2 ?_
   clear hs2
   by_cases hki : k < i
   . obtain ⟨jj,rfl⟩ : ∃ q,jj = q + 1:=⟨jj - 1,by omega⟩
     have f2 : decide ((k : Int) < (i : Int)) = true:=decide_eq_true (by omega)
     have hR' : (eqSt l i k || innT l i jj (k + 1) || outT l j (i + 1)) = R:=hR
     have hkl : k < l.length:=by omega
     repeat' (first
|apply zK
 . conv => lhs; whnf
 . assumption
|refine zB ?_
|refine zC ?_
|refine zQ ?_
|refine zU ?_
|apply aw_1
 conv => whnf
 refine ⟨?_,trivial⟩
|apply s_1
 conv => whnf; arg 1; arg 4; arg 3; whnf
 refine ⟨?_,?_⟩
|apply zAJ (by kernel_rfl) (by kernel_rfl)
|apply zAx
|apply zAw rfl
 . conv => lhs; whnf
 . conv => lhs; whnf; arg 2; whnf
|exact zd
|exact zy
|exact (1000000 : Nat)
|refine zV (by conv => lhs; whnf) ?_ ?_ <;> intro hb
|refine zN ?_
|refine zL ?_
|refine za ?_
|refine zD ?_
|refine ⟨_,by conv => lhs; whnf; arg 2; whnf,?_⟩; conv => rhs; whnf
|exact trivial)
     all_goals first
      | exact zo (by omega)
      | exact zCA hi
      | exact zCA hkl
      | skip
     . have e : eqSt l i k = true:=by assumption
       rw [<- hR',e]; rfl
     . have e : eqSt l i k = false:=by assumption
       exact zF (j':=jj) (by omega) ⟨k + 1,by omega,by rw [<- hR',e,Bool.false_or],Sub.live ⟨rfl,rfl,rfl,trivial⟩ trivial⟩
   . obtain rfl : jj = 0:=by omega
     have f2 : decide ((k : Int) < (i : Int)) = false:=decide_eq_false (by omega)
     have hR' : outT l j (i + 1) = R:=by rw [<- hR,innT,Bool.false_or]
     repeat' (first
|apply zM
 . conv => lhs; whnf
 . assumption
|refine zB ?_
|refine zC ?_
|refine zQ ?_
|refine zU ?_
|apply aw_1
 conv => whnf
 refine ⟨?_,trivial⟩
|apply s_1
 conv => whnf; arg 1; arg 4; arg 3; whnf
 refine ⟨?_,?_⟩
|refine zI ?_
|refine zE rfl ?_
|refine zG ?_
|exact trivial)
     all_goals first
      | exact zo (by omega)
      | exact zF (j':=j) (by omega) ⟨i + 1,by omega,hR',Sub.live ⟨rfl,rfl,trivial⟩ trivial⟩
      | skip
 . obtain rfl : j = 0:=by omega
   have f1 : decide ((i : Int) < (l.length : Nat)) = false:=decide_eq_false (by omega)
   repeat' (first
|apply zM
 . conv => lhs; whnf
 . assumption
|refine zB ?_
|refine zC ?_
|refine zQ ?_
|apply aw_1
 conv => whnf
 refine ⟨?_,trivial⟩
|apply s_1
 conv => whnf; arg 1; arg 4; arg 3; whnf
 refine ⟨?_,?_⟩
|refine zI ?_
|refine zE rfl ?_
|refine zG ?_
|refine zD ?_
|refine ⟨_,by conv => lhs; whnf; arg 2; whnf,?_⟩; conv => rhs; whnf
|exact trivial)
   rw [<- hR]; rfl
def nodeF (n i : Int) (t : Bool) (a b : Nat) (x v y : Bool) : Bool:=
 if n = 0 then i == 0 && t && b == 0 && a == 0
 else if n = 1 then (i == 0 || i == 1) && t && b == 0 && a == 0
 else if n = 2 then t && b == 0 && a == 0
 else if n = 3 then i == 0 && b == 0 && a == 0
 else if n = 4 then i == 0 && b == 0 && a == 0 && x
 else if n = 5 then i == 0 && t && a == 0
 else if n = 6 then i == 0 && t && a == b && y
 else if n = 7 then i == 0 && b == 0 && a == 0 && v
 else false
theorem nodeF_K (n i : Int) (t : Bool) (a b : Nat) (x v ks y : Bool) (hks : a = 0 -> ks = true) : (nodeF n i t a b x v y && ks) = nodeK n i t a b x v ks y:=by
 have h0 : (a == 0) = true -> ks = true:=fun h => hks (by simpa using h)
 unfold nodeF nodeK
 by_cases n0 : n = 0
 . subst n0; cases ks <;> simp_all
   try ac_rfl
 by_cases n1 : n = 1
 . subst n1; cases ks <;> simp_all
   try ac_rfl
 by_cases n2 : n = 2
 . subst n2; cases ks <;> simp_all
   try ac_rfl
 by_cases n3 : n = 3
 . subst n3; cases ks <;> simp_all
   try ac_rfl
 by_cases n4 : n = 4
 . subst n4; cases ks <;> simp_all
   try ac_rfl
 by_cases n5 : n = 5
 . subst n5; cases ks <;> simp_all
   try ac_rfl
 by_cases n6 : n = 6
 . subst n6; cases ks <;> simp_all
   try ac_rfl
 by_cases n7 : n = 7
 . subst n7; cases ks <;> simp_all
   try ac_rfl
 have hd : decide (0 <= n /\ n <= 7) = false:=decide_eq_false (by omega)
 rw [hd]
 simp [n0,n1,n2,n3,n4,n5,n6,n7]
def zFo (d : D) : Bool:=nodeF (d.f 0).n (d.f 1).n ((d.f 2).s.data.toList == []) (d.f 4).l.length (d.f 3).l.length (enumR (d.f 2).s) (nameB (d.f 2).s) (decide (strsR d).Nodup)
theorem nodeD_L (d : D) : (zFo d && !((d.f 4).l.any fun x => !nameB x.s)) = nodeL d:=
 nodeF_K _ _ _ _ _ _ _ _ _ fun h => by rw [List.eq_nil_of_length_eq_zero h]; rfl
section
variable (d : D) (hk : (d.f 4).l.length <= 1000000000) (hs : (d.f 2).s.size <= 1000000000)
include hk hs
theorem nodeF_ac : AC EN Tryz.prog 284 [.agg (cellsV Tryz.prog 12 84 d),.c (.bool true)] (.c (.bool (zFo d))):=by
 have h1:=zAk (d.f 2).s hs
 have h2:=twiceF_ac d hk
 have e : cellsV Tryz.prog 12 84 d = [.c (.int .i64 (d.f 0).n),.c (.int .i64 (d.f 1).n),.c (.string (d.f 2).s),.sl 84 (d.f 3).l,.sl 9 (d.f 4).l]:=rfl
 have hT : ((d.f 2).s.toList == ({ data:=#[] } : ByteArray).toList) = ((d.f 2).s.data.toList == []):=zE4 _ []
 have hT1 : ((d.f 2).s.toList == ({ data:=#[116,114,117,101] } : ByteArray).toList) = ((d.f 2).s.data.toList == [116,114,117,101]):=zE4 _ _
 have hT2 : ((d.f 2).s.toList == ({ data:=#[102,97,108,115,101] } : ByteArray).toList) = ((d.f 2).s.data.toList == [102,97,108,115,101]):=zE4 _ _
 have hT3 : ((d.f 2).s.toList == ({ data:=#[110,117,108,108] } : ByteArray).toList) = ((d.f 2).s.data.toList == [110,117,108,108]):=zE4 _ _
 have z3 : (((d.f 3).l.length : Int) == 0) = ((d.f 3).l.length == 0):=by rw [Bool.eq_iff_iff]; simp only [beq_iff_eq]; omega
 have z4 : (((d.f 4).l.length : Int) == 0) = ((d.f 4).l.length == 0):=by rw [Bool.eq_iff_iff]; simp only [beq_iff_eq]; omega
 have z5 : (((d.f 4).l.length : Int) == ((d.f 3).l.length : Int)) = ((d.f 4).l.length == (d.f 3).l.length):=by rw [Bool.eq_iff_iff]; simp only [beq_iff_eq]; omega
 unfold zFo nodeF enumR
 rw [e]
 by_cases n0 : (d.f 0).n = 0
 . rw [if_pos n0,n0]
   refine zO 193 Tryz.func284 rfl rfl rfl rfl ?_
   intro s w he
   repeat' (first
|refine zB ?_
|refine zC ?_
|refine zQ ?_
|apply aw_1
 conv => whnf
 refine ⟨?_,trivial⟩
|apply ze rfl rfl
 . conv => lhs; whnf
 . conv => lhs; whnf
 . first | exact bT1 ‹_› | exact bT2 ‹_›
|apply zm rfl rfl
 . conv => lhs; whnf
 . conv => lhs; whnf
 . first | exact bF1 ‹_› | exact bF2 ‹_›
|apply s_1
 conv => whnf; arg 1; arg 4; arg 3; whnf
 refine ⟨?_,?_⟩
|apply zAN rfl rfl rfl rfl
 . conv => lhs; whnf; arg 1; whnf
 . rfl
|apply zJ rfl
 . conv => lhs; whnf
 . conv => lhs; whnf
 . first | rfl | assumption
 . conv => lhs; whnf; arg 2; whnf
|apply zAA rfl
 . conv => lhs; whnf
 . conv => lhs; whnf
 . first | rfl | assumption
|apply zW rfl
 . conv => lhs; whnf
 . conv => lhs; whnf
 . conv => lhs; whnf; arg 2; whnf
|refine zN ?_
|refine zL ?_
|refine zD ?_
|refine ⟨_,by conv => lhs; whnf; arg 2; whnf,?_⟩; conv => rhs; whnf
|exact trivial
|intro hg)
   all_goals
    refine congrArg (fun b => V.c (.bool b)) ?_
    clear h1 h2 he e hk hs n0
    simp only [hT,hT1,hT2,hT3,z3,z4,z5] at *
    clear hT hT1 hT2 hT3 z3 z4 z5
    generalize ((d.f 2).s.data.toList == []) = t at *
    generalize ((d.f 2).s.data.toList == [116,114,117,101]) = t1 at *
    generalize ((d.f 2).s.data.toList == [102,97,108,115,101]) = t2 at *
    generalize ((d.f 2).s.data.toList == [110,117,108,108]) = t3 at *
    generalize nameB (d.f 2).s = v at *
    generalize decide (strsR d).Nodup = y at *
    generalize ((d.f 3).l.length == 0) = b0 at *
    generalize ((d.f 4).l.length == 0) = a0 at *
    generalize ((d.f 4).l.length == (d.f 3).l.length) = ab at *
    generalize (d.f 1).n = i at *
    simp_all
 rw [if_neg n0]
 by_cases n1 : (d.f 0).n = 1
 . rw [if_pos n1,n1]
   refine zO 193 Tryz.func284 rfl rfl rfl rfl ?_
   intro s w he
   repeat' (first
|refine zB ?_
|refine zC ?_
|refine zQ ?_
|apply aw_1
 conv => whnf
 refine ⟨?_,trivial⟩
|apply ze rfl rfl
 . conv => lhs; whnf
 . conv => lhs; whnf
 . first | exact bT1 ‹_› | exact bT2 ‹_›
|apply zm rfl rfl
 . conv => lhs; whnf
 . conv => lhs; whnf
 . first | exact bF1 ‹_› | exact bF2 ‹_›
|apply s_1
 conv => whnf; arg 1; arg 4; arg 3; whnf
 refine ⟨?_,?_⟩
|apply zAN rfl rfl rfl rfl
 . conv => lhs; whnf; arg 1; whnf
 . rfl
|apply zJ rfl
 . conv => lhs; whnf
 . conv => lhs; whnf
 . first | rfl | assumption
 . conv => lhs; whnf; arg 2; whnf
|apply zAA rfl
 . conv => lhs; whnf
 . conv => lhs; whnf
 . first | rfl | assumption
|apply zW rfl
 . conv => lhs; whnf
 . conv => lhs; whnf
 . conv => lhs; whnf; arg 2; whnf
|refine zN ?_
|refine zL ?_
|refine zD ?_
|refine ⟨_,by conv => lhs; whnf; arg 2; whnf,?_⟩; conv => rhs; whnf
|exact trivial
|intro hg)
   all_goals
    refine congrArg (fun b => V.c (.bool b)) ?_
    clear h1 h2 he e hk hs n1
    simp only [hT,hT1,hT2,hT3,z3,z4,z5] at *
    clear hT hT1 hT2 hT3 z3 z4 z5
    generalize ((d.f 2).s.data.toList == []) = t at *
    generalize ((d.f 2).s.data.toList == [116,114,117,101]) = t1 at *
    generalize ((d.f 2).s.data.toList == [102,97,108,115,101]) = t2 at *
    generalize ((d.f 2).s.data.toList == [110,117,108,108]) = t3 at *
    generalize nameB (d.f 2).s = v at *
    generalize decide (strsR d).Nodup = y at *
    generalize ((d.f 3).l.length == 0) = b0 at *
    generalize ((d.f 4).l.length == 0) = a0 at *
    generalize ((d.f 4).l.length == (d.f 3).l.length) = ab at *
    generalize (d.f 1).n = i at *
    simp_all
 rw [if_neg n1]
 by_cases n2 : (d.f 0).n = 2
 . rw [if_pos n2,n2]
   refine zO 193 Tryz.func284 rfl rfl rfl rfl ?_
   intro s w he
   repeat' (first
|refine zB ?_
|refine zC ?_
|refine zQ ?_
|apply aw_1
 conv => whnf
 refine ⟨?_,trivial⟩
|apply ze rfl rfl
 . conv => lhs; whnf
 . conv => lhs; whnf
 . first | exact bT1 ‹_› | exact bT2 ‹_›
|apply zm rfl rfl
 . conv => lhs; whnf
 . conv => lhs; whnf
 . first | exact bF1 ‹_› | exact bF2 ‹_›
|apply s_1
 conv => whnf; arg 1; arg 4; arg 3; whnf
 refine ⟨?_,?_⟩
|apply zAN rfl rfl rfl rfl
 . conv => lhs; whnf; arg 1; whnf
 . rfl
|apply zJ rfl
 . conv => lhs; whnf
 . conv => lhs; whnf
 . first | rfl | assumption
 . conv => lhs; whnf; arg 2; whnf
|apply zAA rfl
 . conv => lhs; whnf
 . conv => lhs; whnf
 . first | rfl | assumption
|apply zW rfl
 . conv => lhs; whnf
 . conv => lhs; whnf
 . conv => lhs; whnf; arg 2; whnf
|refine zN ?_
|refine zL ?_
|refine zD ?_
|refine ⟨_,by conv => lhs; whnf; arg 2; whnf,?_⟩; conv => rhs; whnf
|exact trivial
|intro hg)
   all_goals
    refine congrArg (fun b => V.c (.bool b)) ?_
    clear h1 h2 he e hk hs n2
    simp only [hT,hT1,hT2,hT3,z3,z4,z5] at *
    clear hT hT1 hT2 hT3 z3 z4 z5
    generalize ((d.f 2).s.data.toList == []) = t at *
    generalize ((d.f 2).s.data.toList == [116,114,117,101]) = t1 at *
    generalize ((d.f 2).s.data.toList == [102,97,108,115,101]) = t2 at *
    generalize ((d.f 2).s.data.toList == [110,117,108,108]) = t3 at *
    generalize nameB (d.f 2).s = v at *
    generalize decide (strsR d).Nodup = y at *
    generalize ((d.f 3).l.length == 0) = b0 at *
    generalize ((d.f 4).l.length == 0) = a0 at *
    generalize ((d.f 4).l.length == (d.f 3).l.length) = ab at *
    generalize (d.f 1).n = i at *
    simp_all
 rw [if_neg n2]
 by_cases n3 : (d.f 0).n = 3
 . rw [if_pos n3,n3]
   refine zO 193 Tryz.func284 rfl rfl rfl rfl ?_
   intro s w he
   repeat' (first
|refine zB ?_
|refine zC ?_
|refine zQ ?_
|apply aw_1
 conv => whnf
 refine ⟨?_,trivial⟩
|apply ze rfl rfl
 . conv => lhs; whnf
 . conv => lhs; whnf
 . first | exact bT1 ‹_› | exact bT2 ‹_›
|apply zm rfl rfl
 . conv => lhs; whnf
 . conv => lhs; whnf
 . first | exact bF1 ‹_› | exact bF2 ‹_›
|apply s_1
 conv => whnf; arg 1; arg 4; arg 3; whnf
 refine ⟨?_,?_⟩
|apply zAN rfl rfl rfl rfl
 . conv => lhs; whnf; arg 1; whnf
 . rfl
|apply zJ rfl
 . conv => lhs; whnf
 . conv => lhs; whnf
 . first | rfl | assumption
 . conv => lhs; whnf; arg 2; whnf
|apply zAA rfl
 . conv => lhs; whnf
 . conv => lhs; whnf
 . first | rfl | assumption
|apply zW rfl
 . conv => lhs; whnf
 . conv => lhs; whnf
 . conv => lhs; whnf; arg 2; whnf
|refine zN ?_
|refine zL ?_
|refine zD ?_
|refine ⟨_,by conv => lhs; whnf; arg 2; whnf,?_⟩; conv => rhs; whnf
|exact trivial
|intro hg)
   all_goals
    refine congrArg (fun b => V.c (.bool b)) ?_
    clear h1 h2 he e hk hs n3
    simp only [hT,hT1,hT2,hT3,z3,z4,z5] at *
    clear hT hT1 hT2 hT3 z3 z4 z5
    generalize ((d.f 2).s.data.toList == []) = t at *
    generalize ((d.f 2).s.data.toList == [116,114,117,101]) = t1 at *
    generalize ((d.f 2).s.data.toList == [102,97,108,115,101]) = t2 at *
    generalize ((d.f 2).s.data.toList == [110,117,108,108]) = t3 at *
    generalize nameB (d.f 2).s = v at *
    generalize decide (strsR d).Nodup = y at *
    generalize ((d.f 3).l.length == 0) = b0 at *
    generalize ((d.f 4).l.length == 0) = a0 at *
    generalize ((d.f 4).l.length == (d.f 3).l.length) = ab at *
    generalize (d.f 1).n = i at *
    simp_all
 rw [if_neg n3]
 by_cases n4 : (d.f 0).n = 4
 . rw [if_pos n4,n4]
   refine zO 193 Tryz.func284 rfl rfl rfl rfl ?_
   intro s w he
   repeat' (first
|refine zB ?_
|refine zC ?_
|refine zQ ?_
|apply aw_1
 conv => whnf
 refine ⟨?_,trivial⟩
|apply ze rfl rfl
 . conv => lhs; whnf
 . conv => lhs; whnf
 . first | exact bT1 ‹_› | exact bT2 ‹_›
|apply zm rfl rfl
 . conv => lhs; whnf
 . conv => lhs; whnf
 . first | exact bF1 ‹_› | exact bF2 ‹_›
|apply s_1
 conv => whnf; arg 1; arg 4; arg 3; whnf
 refine ⟨?_,?_⟩
|apply zAN rfl rfl rfl rfl
 . conv => lhs; whnf; arg 1; whnf
 . rfl
|apply zJ rfl
 . conv => lhs; whnf
 . conv => lhs; whnf
 . first | rfl | assumption
 . conv => lhs; whnf; arg 2; whnf
|apply zX rfl
 . conv => lhs; whnf
 . conv => lhs; whnf
 . first | rfl | assumption
 . conv => lhs; whnf
 . first | exact h1 | exact h2
|apply zAA rfl
 . conv => lhs; whnf
 . conv => lhs; whnf
 . first | rfl | assumption
|apply zW rfl
 . conv => lhs; whnf
 . conv => lhs; whnf
 . conv => lhs; whnf; arg 2; whnf
|refine zN ?_
|refine zL ?_
|refine zD ?_
|refine ⟨_,by conv => lhs; whnf; arg 2; whnf,?_⟩; conv => rhs; whnf
|exact trivial
|intro hg)
   all_goals
    refine congrArg (fun b => V.c (.bool b)) ?_
    clear h1 h2 he e hk hs n4
    simp only [hT,hT1,hT2,hT3,z3,z4,z5] at *
    clear hT hT1 hT2 hT3 z3 z4 z5
    generalize ((d.f 2).s.data.toList == []) = t at *
    generalize ((d.f 2).s.data.toList == [116,114,117,101]) = t1 at *
    generalize ((d.f 2).s.data.toList == [102,97,108,115,101]) = t2 at *
    generalize ((d.f 2).s.data.toList == [110,117,108,108]) = t3 at *
    generalize nameB (d.f 2).s = v at *
    generalize decide (strsR d).Nodup = y at *
    generalize ((d.f 3).l.length == 0) = b0 at *
    generalize ((d.f 4).l.length == 0) = a0 at *
    generalize ((d.f 4).l.length == (d.f 3).l.length) = ab at *
    generalize (d.f 1).n = i at *
    simp_all
 rw [if_neg n4]
 by_cases n5 : (d.f 0).n = 5
 . rw [if_pos n5,n5]
   refine zO 193 Tryz.func284 rfl rfl rfl rfl ?_
   intro s w he
   repeat' (first
|refine zB ?_
|refine zC ?_
|refine zQ ?_
|apply aw_1
 conv => whnf
 refine ⟨?_,trivial⟩
|apply ze rfl rfl
 . conv => lhs; whnf
 . conv => lhs; whnf
 . first | exact bT1 ‹_› | exact bT2 ‹_›
|apply zm rfl rfl
 . conv => lhs; whnf
 . conv => lhs; whnf
 . first | exact bF1 ‹_› | exact bF2 ‹_›
|apply s_1
 conv => whnf; arg 1; arg 4; arg 3; whnf
 refine ⟨?_,?_⟩
|apply zAN rfl rfl rfl rfl
 . conv => lhs; whnf; arg 1; whnf
 . rfl
|apply zJ rfl
 . conv => lhs; whnf
 . conv => lhs; whnf
 . first | rfl | assumption
 . conv => lhs; whnf; arg 2; whnf
|apply zAA rfl
 . conv => lhs; whnf
 . conv => lhs; whnf
 . first | rfl | assumption
|apply zW rfl
 . conv => lhs; whnf
 . conv => lhs; whnf
 . conv => lhs; whnf; arg 2; whnf
|refine zN ?_
|refine zL ?_
|refine zD ?_
|refine ⟨_,by conv => lhs; whnf; arg 2; whnf,?_⟩; conv => rhs; whnf
|exact trivial
|intro hg)
   all_goals
    refine congrArg (fun b => V.c (.bool b)) ?_
    clear h1 h2 he e hk hs n5
    simp only [hT,hT1,hT2,hT3,z3,z4,z5] at *
    clear hT hT1 hT2 hT3 z3 z4 z5
    generalize ((d.f 2).s.data.toList == []) = t at *
    generalize ((d.f 2).s.data.toList == [116,114,117,101]) = t1 at *
    generalize ((d.f 2).s.data.toList == [102,97,108,115,101]) = t2 at *
    generalize ((d.f 2).s.data.toList == [110,117,108,108]) = t3 at *
    generalize nameB (d.f 2).s = v at *
    generalize decide (strsR d).Nodup = y at *
    generalize ((d.f 3).l.length == 0) = b0 at *
    generalize ((d.f 4).l.length == 0) = a0 at *
    generalize ((d.f 4).l.length == (d.f 3).l.length) = ab at *
    generalize (d.f 1).n = i at *
    simp_all
 rw [if_neg n5]
 by_cases n6 : (d.f 0).n = 6
 . rw [if_pos n6,n6]
   refine zO 193 Tryz.func284 rfl rfl rfl rfl ?_
   intro s w he
   repeat' (first
|refine zB ?_
|refine zC ?_
|refine zQ ?_
|apply aw_1
 conv => whnf
 refine ⟨?_,trivial⟩
|apply ze rfl rfl
 . conv => lhs; whnf
 . conv => lhs; whnf
 . first | exact bT1 ‹_› | exact bT2 ‹_›
|apply zm rfl rfl
 . conv => lhs; whnf
 . conv => lhs; whnf
 . first | exact bF1 ‹_› | exact bF2 ‹_›
|apply s_1
 conv => whnf; arg 1; arg 4; arg 3; whnf
 refine ⟨?_,?_⟩
|apply zAN rfl rfl rfl rfl
 . conv => lhs; whnf; arg 1; whnf
 . rfl
|apply zJ rfl
 . conv => lhs; whnf
 . conv => lhs; whnf
 . first | rfl | assumption
 . conv => lhs; whnf; arg 2; whnf
|apply zX rfl
 . conv => lhs; whnf
 . conv => lhs; whnf
 . first | rfl | assumption
 . conv => lhs; whnf
 . first | exact h1 | exact h2
|apply zAA rfl
 . conv => lhs; whnf
 . conv => lhs; whnf
 . first | rfl | assumption
|apply zW rfl
 . conv => lhs; whnf
 . conv => lhs; whnf
 . conv => lhs; whnf; arg 2; whnf
|refine zN ?_
|refine zL ?_
|refine zD ?_
|refine ⟨_,by conv => lhs; whnf; arg 2; whnf,?_⟩; conv => rhs; whnf
|exact trivial
|intro hg)
   all_goals
    refine congrArg (fun b => V.c (.bool b)) ?_
    clear h1 h2 he e hk hs n6
    simp only [hT,hT1,hT2,hT3,z3,z4,z5] at *
    clear hT hT1 hT2 hT3 z3 z4 z5
    generalize ((d.f 2).s.data.toList == []) = t at *
    generalize ((d.f 2).s.data.toList == [116,114,117,101]) = t1 at *
    generalize ((d.f 2).s.data.toList == [102,97,108,115,101]) = t2 at *
    generalize ((d.f 2).s.data.toList == [110,117,108,108]) = t3 at *
    generalize nameB (d.f 2).s = v at *
    generalize decide (strsR d).Nodup = y at *
    generalize ((d.f 3).l.length == 0) = b0 at *
    generalize ((d.f 4).l.length == 0) = a0 at *
    generalize ((d.f 4).l.length == (d.f 3).l.length) = ab at *
    generalize (d.f 1).n = i at *
    simp_all
 rw [if_neg n6]
 by_cases n7 : (d.f 0).n = 7
 . rw [if_pos n7,n7]
   refine zO 193 Tryz.func284 rfl rfl rfl rfl ?_
   intro s w he
   repeat' (first
|refine zB ?_
|refine zC ?_
|refine zQ ?_
|apply aw_1
 conv => whnf
 refine ⟨?_,trivial⟩
|apply ze rfl rfl
 . conv => lhs; whnf
 . conv => lhs; whnf
 . first | exact bT1 ‹_› | exact bT2 ‹_›
|apply zm rfl rfl
 . conv => lhs; whnf
 . conv => lhs; whnf
 . first | exact bF1 ‹_› | exact bF2 ‹_›
|apply s_1
 conv => whnf; arg 1; arg 4; arg 3; whnf
 refine ⟨?_,?_⟩
|apply zAN rfl rfl rfl rfl
 . conv => lhs; whnf; arg 1; whnf
 . rfl
|apply zJ rfl
 . conv => lhs; whnf
 . conv => lhs; whnf
 . first | rfl | assumption
 . conv => lhs; whnf; arg 2; whnf
|apply zX rfl
 . conv => lhs; whnf
 . conv => lhs; whnf
 . first | rfl | assumption
 . conv => lhs; whnf
 . first | exact h1 | exact h2
|apply zAA rfl
 . conv => lhs; whnf
 . conv => lhs; whnf
 . first | rfl | assumption
|apply zW rfl
 . conv => lhs; whnf
 . conv => lhs; whnf
 . conv => lhs; whnf; arg 2; whnf
|refine zN ?_
|refine zL ?_
|refine zD ?_
|refine ⟨_,by conv => lhs; whnf; arg 2; whnf,?_⟩; conv => rhs; whnf
|exact trivial
|intro hg)
   all_goals
    refine congrArg (fun b => V.c (.bool b)) ?_
    clear h1 h2 he e hk hs n7
    simp only [hT,hT1,hT2,hT3,z3,z4,z5] at *
    clear hT hT1 hT2 hT3 z3 z4 z5
    generalize ((d.f 2).s.data.toList == []) = t at *
    generalize ((d.f 2).s.data.toList == [116,114,117,101]) = t1 at *
    generalize ((d.f 2).s.data.toList == [102,97,108,115,101]) = t2 at *
    generalize ((d.f 2).s.data.toList == [110,117,108,108]) = t3 at *
    generalize nameB (d.f 2).s = v at *
    generalize decide (strsR d).Nodup = y at *
    generalize ((d.f 3).l.length == 0) = b0 at *
    generalize ((d.f 4).l.length == 0) = a0 at *
    generalize ((d.f 4).l.length == (d.f 3).l.length) = ab at *
    generalize (d.f 1).n = i at *
    simp_all
 rw [if_neg n7]
 . have f0 : ((d.f 0).n == 0) = false:=by simpa using n0
   have f1 : ((d.f 0).n == 1) = false:=by simpa using n1
   have f2 : ((d.f 0).n == 2) = false:=by simpa using n2
   have f3 : ((d.f 0).n == 3) = false:=by simpa using n3
   have f4 : ((d.f 0).n == 4) = false:=by simpa using n4
   have f5 : ((d.f 0).n == 5) = false:=by simpa using n5
   have f6 : ((d.f 0).n == 6) = false:=by simpa using n6
   have f7 : ((d.f 0).n == 7) = false:=by simpa using n7
   refine zO 193 Tryz.func284 rfl rfl rfl rfl ?_
   intro s w he
   repeat' (first
|apply zM
 . conv => lhs; whnf
 . assumption
|refine zB ?_
|refine zC ?_
|refine zQ ?_
|refine zU ?_
|apply aw_1
 conv => whnf
 refine ⟨?_,trivial⟩
|apply s_1
 conv => whnf; arg 1; arg 4; arg 3; whnf
 refine ⟨?_,?_⟩
|apply zAN rfl rfl rfl rfl
 . conv => lhs; whnf; arg 1; whnf
 . rfl
|refine zD ?_
|refine ⟨_,by conv => lhs; whnf; arg 2; whnf,?_⟩; conv => rhs; whnf
|exact trivial)
end
def allI (p : D -> Bool) (l : List D) : Nat -> Nat -> Bool
 | 0,_ => true
 | j + 1,i => p (gD l i) && allI p l j (i + 1)
theorem zGz (p : D -> Bool) (x : D) (l : List D) : ∀ (j i : Nat),allI p (x :: l) j (i + 1) = allI p l j i
 | 0,_ => rfl
 | j + 1,i => by
   unfold allI
   rw [zGz p x l j (i + 1)]
   rfl
theorem zF9 (p : D -> Bool) : ∀ l : List D,allI p l l.length 0 = l.all p
 | [] => rfl
 | x :: r => by
   show (p x && allI p (x :: r) r.length 1) = (p x && r.all p)
   rw [zGz,zF9 p r]
theorem all_any (p : D -> Bool) (l : List D) : l.all p = !(l.any fun x => !p x):=by
 induction l with
 | nil => rfl
 | cons x r ih => simp only [List.all_cons,List.any_cons,ih,Bool.not_or,Bool.not_not]
theorem zBw (p : D -> Bool) (l : List D) : allI p l l.length 0 = !(l.any fun x => !p x):=by rw [zF9,all_any]
noncomputable def HWk (d : D) (i : Nat) : Vst 43:=stS 43 [(1,.c (.bool true)),(2,.bx 2 0),(5,.c (.int .i64 (i : Int)))] [(2,.box 84 (cellsV Tryz.prog 12 84 d))]
noncomputable def HWi (d : D) (i : Nat) : Vst 43:=stS 43 [(1,.c (.bool true)),(2,.bx 2 0),(6,.c (.int .i64 (i : Int)))] [(2,.box 84 (cellsV Tryz.prog 12 84 d))]
theorem zGD : ∀ (k : Nat) (d : D),Dp k d -> bulkD d <= 1000000000 -> AC EN Tryz.prog 212 [.agg (cellsV Tryz.prog 12 84 d),.c (.bool true)] (.c (.bool (everyL k d)))
 | 0,_,h,_ => h.elim
 | k + 1,d,h,hw => by
   have hin:=bk_in hw
   have hl:=hin.items
   have hlk:=hin.keys
   have ih:=fun i (hi : i < (d.f 3).l.length) => zGD k (gD (d.f 3).l i) (h i hi) (by have:=hin.at_ i hi; omega)
   have hn:=nodeF_ac d hin.keys hin.text
   have hname:=fun i (hi : i < (d.f 4).l.length) => zAk (gD (d.f 4).l i).s (hin.key i hi)
   have hR : everyL (k + 1) d = (zFo d && allI (fun x => nameB x.s) (d.f 4).l (d.f 4).l.length 0 && allI (everyL k) (d.f 3).l (d.f 3).l.length 0):=by
    rw [zBw,zBw,nodeD_L]; rfl
   generalize everyL (k + 1) d = R at hR |-
   refine zO 43 Tryz.func212 rfl rfl rfl rfl ?_
   intro s w he
   repeat' (first
|refine zB ?_
|refine zC ?_
|refine zQ ?_
|apply aw_1
 conv => whnf
 refine ⟨?_,trivial⟩
|apply s_1
 conv => whnf; arg 1; arg 4; arg 3; whnf
 refine ⟨?_,?_⟩
|apply zl rfl
 . conv => lhs; whnf
 . conv => lhs; whnf
 . first | exact hn
|apply zAN rfl rfl rfl rfl
 . conv => lhs; whnf; arg 1; whnf
 . rfl
|refine zV (by conv => lhs; whnf) ?_ ?_ <;> intro hb
|refine zN ?_
|refine zD ?_
|refine ⟨_,by conv => lhs; whnf; arg 2; whnf,?_⟩; conv => rhs; whnf
|exact trivial)
   . have hb : zFo d = false:=by simpa using (by assumption : (!zFo d) = true)
     rw [hR,hb]; rfl
   have hb : zFo d = true:=by simpa using (by assumption : (!zFo d) = false)
   rw [hb,Bool.true_and] at hR
   clear hb hn
   refine zv (fun j st => ∃ i,i + j = (d.f 4).l.length /\ R = (allI (fun x => nameB x.s) (d.f 4).l j i && allI (everyL k) (d.f 3).l (d.f 3).l.length 0) /\ Sub (cx EN Tryz.prog s w he) st (HWk d i)) (d.f 4).l.length ⟨0,by omega,hR,Sub.live ⟨rfl,rfl,rfl,trivial⟩ ⟨rfl,trivial⟩⟩ ?_
   clear hR
   rintro j st ⟨i,hij,hR,hs2⟩
   refine zu hs2 ?_
   clear hs2
   by_cases hi : i < (d.f 4).l.length
   . obtain ⟨j,rfl⟩ : ∃ q,j = q + 1:=⟨j - 1,by omega⟩
     have f1 : decide ((i : Int) < ((d.f 4).l.length : Nat)) = true:=decide_eq_true (by omega)
     have hR' : R = (nameB (gD (d.f 4).l i).s && allI (fun x => nameB x.s) (d.f 4).l j (i + 1) && allI (everyL k) (d.f 3).l (d.f 3).l.length 0):=hR
     clear hR
     have hn1:=hname i hi
     repeat' (first
|apply zK
 . conv => lhs; whnf
 . assumption
|refine zB ?_
|refine zC ?_
|refine zQ ?_
|refine zU ?_
|apply aw_1
 conv => whnf
 refine ⟨?_,trivial⟩
|apply s_1
 conv => whnf; arg 1; arg 4; arg 3; whnf
 refine ⟨?_,?_⟩
|apply zX rfl
 . conv => lhs; whnf
 . conv => lhs; whnf
 . first | rfl | assumption
 . conv => lhs; whnf
 . first | exact hn1
|refine zV (by conv => lhs; whnf) ?_ ?_ <;> intro hb
|refine zN ?_
|refine zL ?_
|refine za ?_
|refine zD ?_
|refine ⟨_,by conv => lhs; whnf; arg 2; whnf,?_⟩; conv => rhs; whnf
|exact trivial)
     all_goals first
      | exact zo (by omega)
      | exact zCA hi
      | (have e : nameB (gD (d.f 4).l i).s = false:=by simpa using (by assumption : (!nameB (gD (d.f 4).l i).s) = true)
         rw [hR',e]; rfl)
      | (have e : nameB (gD (d.f 4).l i).s = true:=by simpa using (by assumption : (!nameB (gD (d.f 4).l i).s) = false)
         exact zF (j':=j) (by omega) ⟨i + 1,by omega,by rw [hR',e,Bool.true_and],Sub.live ⟨rfl,rfl,rfl,trivial⟩ ⟨rfl,trivial⟩⟩)
      | skip
   . obtain rfl : j = 0:=by omega
     have f1 : decide ((i : Int) < ((d.f 4).l.length : Nat)) = false:=decide_eq_false (by omega)
     have hR2 : R = allI (everyL k) (d.f 3).l (d.f 3).l.length 0:=by rw [hR,allI,Bool.true_and]
     clear hR
     repeat' (first
|apply zM
 . conv => lhs; whnf
 . assumption
|refine zB ?_
|refine zC ?_
|refine zQ ?_
|apply aw_1
 conv => whnf
 refine ⟨?_,trivial⟩
|apply s_1
 conv => whnf; arg 1; arg 4; arg 3; whnf
 refine ⟨?_,?_⟩
|refine zI ?_
|refine zE rfl ?_
|refine zG ?_
|exact trivial)
     refine zv (fun j st => ∃ i,i + j = (d.f 3).l.length /\ R = allI (everyL k) (d.f 3).l j i /\ Sub (cx EN Tryz.prog s w he) st (HWi d i)) (d.f 3).l.length ⟨0,by omega,hR2,Sub.live ⟨rfl,rfl,rfl,trivial⟩ ⟨rfl,trivial⟩⟩ ?_
     clear hR2
     rintro j2 st2 ⟨i2,hij2,hR,hs2⟩
     refine zu hs2 ?_
     clear hs2
     by_cases hi2 : i2 < (d.f 3).l.length
     . obtain ⟨j2,rfl⟩ : ∃ q,j2 = q + 1:=⟨j2 - 1,by omega⟩
       have f2 : decide ((i2 : Int) < ((d.f 3).l.length : Nat)) = true:=decide_eq_true (by omega)
       have hR' : R = (everyL k (gD (d.f 3).l i2) && allI (everyL k) (d.f 3).l j2 (i2 + 1)):=hR
       have ih2:=ih i2 hi2
       repeat' (first
|apply zK
 . conv => lhs; whnf
 . assumption
|refine zB ?_
|refine zC ?_
|refine zQ ?_
|refine zU ?_
|apply aw_1
 conv => whnf
 refine ⟨?_,trivial⟩
|apply s_1
 conv => whnf; arg 1; arg 4; arg 3; whnf
 refine ⟨?_,?_⟩
|apply zl rfl
 . conv => lhs; whnf
 . conv => lhs; whnf
 . first | exact ih2
|refine zV (by conv => lhs; whnf) ?_ ?_ <;> intro hb
|refine zN ?_
|refine zL ?_
|refine za ?_
|refine zD ?_
|refine ⟨_,by conv => lhs; whnf; arg 2; whnf,?_⟩; conv => rhs; whnf
|exact trivial)
       all_goals first
        | exact zo (by omega)
        | exact zCA hi2
        | (have e : everyL k (gD (d.f 3).l i2) = false:=by simpa using (by assumption : (!everyL k (gD (d.f 3).l i2)) = true)
           rw [hR',e]; rfl)
        | (have e : everyL k (gD (d.f 3).l i2) = true:=by simpa using (by assumption : (!everyL k (gD (d.f 3).l i2)) = false)
           exact zF (j':=j2) (by omega) ⟨i2 + 1,by omega,by rw [hR',e,Bool.true_and],Sub.live ⟨rfl,rfl,rfl,trivial⟩ ⟨rfl,trivial⟩⟩)
        | skip
     . obtain rfl : j2 = 0:=by omega
       have f2 : decide ((i2 : Int) < ((d.f 3).l.length : Nat)) = false:=decide_eq_false (by omega)
       repeat' (first
|apply zM
 . conv => lhs; whnf
 . assumption
|refine zB ?_
|refine zC ?_
|refine zQ ?_
|apply aw_1
 conv => whnf
 refine ⟨?_,trivial⟩
|apply s_1
 conv => whnf; arg 1; arg 4; arg 3; whnf
 refine ⟨?_,?_⟩
|refine zI ?_
|refine zE rfl ?_
|refine zG ?_
|refine zD ?_
|refine ⟨_,by conv => lhs; whnf; arg 2; whnf,?_⟩; conv => rhs; whnf
|exact trivial)
       rw [hR]; rfl
theorem litF_ac (d : D) (hw : bulkD d <= 1000000000) : AC EN Tryz.prog 134 [.agg (cellsV Tryz.prog 12 84 d)] (.c (.bool (litR d))):=by
 have h:=zEk (bulkD d) d (Nat.le_refl _)
 have h1:=zHz _ d h hw
 have h2:=zGs _ d h hw
 have h3:=zGD _ d h hw
 unfold litR
 refine zO 15 Tryz.func134 rfl rfl rfl rfl ?_
 intro s w he
 repeat' (first
|refine zB ?_
|refine zC ?_
|refine zQ ?_
|apply aw_1
 conv => whnf
 refine ⟨?_,trivial⟩
|apply ze rfl rfl
 . conv => lhs; whnf
 . conv => lhs; whnf
 . first | exact bT1 ‹_› | exact bT2 ‹_›
|apply zm rfl rfl
 . conv => lhs; whnf
 . conv => lhs; whnf
 . first | exact bF1 ‹_› | exact bF2 ‹_›
|apply s_1
 conv => whnf; arg 1; arg 4; arg 3; whnf
 refine ⟨?_,?_⟩
|apply zl rfl
 . conv => lhs; whnf
 . conv => lhs; whnf
 . first | exact h1 | exact h2 | exact h3
|apply zAN rfl rfl rfl rfl
 . conv => lhs; whnf; arg 1; whnf
 . rfl
|apply zJ rfl
 . conv => lhs; whnf
 . conv => lhs; whnf
 . first | rfl | assumption
 . conv => lhs; whnf; arg 2; whnf
|apply zX rfl
 . conv => lhs; whnf
 . conv => lhs; whnf
 . first | rfl | assumption
 . conv => lhs; whnf
 . first | exact h1 | exact h2 | exact h3
|apply zAA rfl
 . conv => lhs; whnf
 . conv => lhs; whnf
 . first | rfl | assumption
|apply zW rfl
 . conv => lhs; whnf
 . conv => lhs; whnf
 . conv => lhs; whnf; arg 2; whnf
|refine zD ?_
|refine ⟨_,by conv => lhs; whnf; arg 2; whnf,?_⟩; conv => rhs; whnf
|exact trivial
|intro hg)
 all_goals
  clear h1 h2 h3 he
  refine congrArg (fun b => V.c (.bool b)) ?_
  have e1 : decide ((sizeR (bulkD d) d : Int) <= 4096) = decide (sizeR (bulkD d) d <= 4096):=decide_eq_decide.2 (by omega)
  have e2 : decide ((depthR (bulkD d) d : Int) <= 24) = decide (depthR (bulkD d) d <= 24):=decide_eq_decide.2 (by omega)
  simp only [e1,e2] at *
  simp_all
  try (intros; omega)
theorem zGI (x : ByteArray) (hs : x.size <= 1000000000) : AC EN Tryz.prog 69 [.c (.string x)] (.c (.bool (titleR x))):=by
 have hn:=zAk x hs
 have hT : (x.toList == ({ data:=#[111,110] } : ByteArray).toList) = (x.data.toList == [111,110]):=zE4 _ _
 unfold titleR
 refine zO 9 Tryz.func69 rfl rfl rfl rfl ?_
 intro s w he
 repeat' (first
|refine zB ?_
|refine zC ?_
|refine zQ ?_
|apply aw_1
 conv => whnf
 refine ⟨?_,trivial⟩
|apply ze rfl rfl
 . conv => lhs; whnf
 . conv => lhs; whnf
 . first | exact bT1 ‹_› | exact bT2 ‹_›
|apply zm rfl rfl
 . conv => lhs; whnf
 . conv => lhs; whnf
 . first | exact bF1 ‹_› | exact bF2 ‹_›
|apply s_1
 conv => whnf; arg 1; arg 4; arg 3; whnf
 refine ⟨?_,?_⟩
|apply zl rfl
 . conv => lhs; whnf
 . conv => lhs; whnf
 . first | exact hn
|apply zJ rfl
 . conv => lhs; whnf
 . conv => lhs; whnf
 . first | rfl | assumption
 . conv => lhs; whnf; arg 2; whnf
|apply zAA rfl
 . conv => lhs; whnf
 . conv => lhs; whnf
 . first | rfl | assumption
|apply zW rfl
 . conv => lhs; whnf
 . conv => lhs; whnf
 . conv => lhs; whnf; arg 2; whnf
|refine zD ?_
|refine ⟨_,by conv => lhs; whnf; arg 2; whnf,?_⟩; conv => rhs; whnf
|exact trivial
|intro hg)
 all_goals
  clear hn he
  refine congrArg (fun b => V.c (.bool b)) ?_
  simp only [hT] at *
  simp_all
theorem le16 (n : Nat) : decide ((n : Int) <= 16) = decide (n <= 16):=decide_eq_decide.2 (by omega)
noncomputable def HargsF (l : List D) (i : Nat) : Vst 29:=stS 29 [(0,.sl 86 l),(3,.c (.int .i64 (i : Int)))] []
theorem zIu (l : List D) (hw : bulkL l <= 1000000000) : AC EN Tryz.prog 214 [.sl 86 l] (.c (.bool (argsR l))):=by
 have hl:=zA3 l
 have hR : argsR l = (allI argR l l.length 0 && decide (l.length <= 16)):=by rw [zBw,Bool.and_comm]; rfl
 generalize argsR l = R at hR |-
 refine zO 29 Tryz.func214 rfl rfl rfl rfl ?_
 intro s w he
 repeat' (first
|refine zB ?_
|refine zC ?_
|refine zQ ?_
|apply aw_1
 conv => whnf
 refine ⟨?_,trivial⟩
|apply s_1
 conv => whnf; arg 1; arg 4; arg 3; whnf
 refine ⟨?_,?_⟩
|exact trivial)
 refine zv (fun j st => ∃ i,i + j = l.length /\ R = (allI argR l j i && decide (l.length <= 16)) /\ Sub (cx EN Tryz.prog s w he) st (HargsF l i)) l.length ⟨0,by omega,hR,Sub.live ⟨rfl,rfl,trivial⟩ trivial⟩ ?_
 clear hR
 rintro j st ⟨i,hij,hR,hs2⟩
 refine zu hs2 ?_
 clear hs2
 by_cases hi : i < l.length
 . obtain ⟨j,rfl⟩ : ∃ q,j = q + 1:=⟨j - 1,by omega⟩
   have f1 : decide ((i : Int) < (l.length : Nat)) = true:=decide_eq_true (by omega)
   have hR' : R = (argR (gD l i) && allI argR l j (i + 1) && decide (l.length <= 16)):=hR
   clear hR
   have b0:=zAH hi
   have b1:=zZ (gD l i)
   have q0:=wD_f (gD l i) 0; have q0':=zAG ((gD l i).f 0)
   have q1:=wD_f (gD l i) 1; have q1':=zZ ((gD l i).f 1)
   have h1:=zAk ((gD l i).f 0).s (by omega)
   have h2:=litF_ac ((gD l i).f 1) (by omega)
   repeat' (first
|apply zK
 . conv => lhs; whnf
 . assumption
|refine zB ?_
|refine zC ?_
|refine zQ ?_
|refine zU ?_
|apply aw_1
 conv => whnf
 refine ⟨?_,trivial⟩
|apply ze rfl rfl
 . conv => lhs; whnf
 . conv => lhs; whnf
 . first | exact bT1 ‹_› | exact bT2 ‹_›
|apply zm rfl rfl
 . conv => lhs; whnf
 . conv => lhs; whnf
 . first | exact bF1 ‹_› | exact bF2 ‹_›
|apply s_1
 conv => whnf; arg 1; arg 4; arg 3; whnf
 refine ⟨?_,?_⟩
|apply zl rfl
 . conv => lhs; whnf
 . conv => lhs; whnf
 . first | exact h1 | exact h2
|apply zJ rfl
 . conv => lhs; whnf
 . conv => lhs; whnf
 . first | rfl | assumption
 . conv => lhs; whnf; arg 2; whnf
|apply zX rfl
 . conv => lhs; whnf
 . conv => lhs; whnf
 . first | rfl | assumption
 . conv => lhs; whnf
 . first | exact h1 | exact h2
|apply zAA rfl
 . conv => lhs; whnf
 . conv => lhs; whnf
 . first | rfl | assumption
|apply zW rfl
 . conv => lhs; whnf
 . conv => lhs; whnf
 . conv => lhs; whnf; arg 2; whnf
|refine zV (by conv => lhs; whnf) ?_ ?_ <;> intro hb
|refine zN ?_
|refine zL ?_
|refine za ?_
|refine zD ?_
|refine ⟨_,by conv => lhs; whnf; arg 2; whnf,?_⟩; conv => rhs; whnf
|exact trivial
|intro hg)
   all_goals first
    | exact zo (by omega)
    | exact zCA hi
    | (have e : argR (gD l i) = false:=by
        clear hR' he
        unfold argR
        simp_all
       rw [hR',e]; rfl)
    | (have e : argR (gD l i) = true:=by
        clear hR' he
        unfold argR
        simp_all
       exact zF (j':=j) (by omega) ⟨i + 1,by omega,by rw [hR',e,Bool.true_and],Sub.live ⟨rfl,rfl,trivial⟩ trivial⟩)
    | skip
 . obtain rfl : j = 0:=by omega
   have f1 : decide ((i : Int) < (l.length : Nat)) = false:=decide_eq_false (by omega)
   repeat' (first
|apply zM
 . conv => lhs; whnf
 . assumption
|refine zB ?_
|refine zC ?_
|refine zQ ?_
|apply aw_1
 conv => whnf
 refine ⟨?_,trivial⟩
|apply s_1
 conv => whnf; arg 1; arg 4; arg 3; whnf
 refine ⟨?_,?_⟩
|refine zI ?_
|refine zE rfl ?_
|refine zG ?_
|refine zD ?_
|refine ⟨_,by conv => lhs; whnf; arg 2; whnf,?_⟩; conv => rhs; whnf
|exact trivial)
   rw [hR,allI,Bool.true_and,le16]
noncomputable def HdirsF (l : List D) (i : Nat) : Vst 29:=stS 29 [(0,.sl 150 l),(3,.c (.int .i64 (i : Int)))] []
theorem dirsF_ac (l : List D) (hw : bulkL l <= 1000000000) : AC EN Tryz.prog 213 [.sl 150 l] (.c (.bool (dirsR l))):=by
 have hl:=zA3 l
 have hR : dirsR l = (allI dirR l l.length 0 && decide (l.length <= 16)):=by rw [zBw,Bool.and_comm]; rfl
 generalize dirsR l = R at hR |-
 refine zO 29 Tryz.func213 rfl rfl rfl rfl ?_
 intro s w he
 repeat' (first
|refine zB ?_
|refine zC ?_
|refine zQ ?_
|apply aw_1
 conv => whnf
 refine ⟨?_,trivial⟩
|apply s_1
 conv => whnf; arg 1; arg 4; arg 3; whnf
 refine ⟨?_,?_⟩
|exact trivial)
 refine zv (fun j st => ∃ i,i + j = l.length /\ R = (allI dirR l j i && decide (l.length <= 16)) /\ Sub (cx EN Tryz.prog s w he) st (HdirsF l i)) l.length ⟨0,by omega,hR,Sub.live ⟨rfl,rfl,trivial⟩ trivial⟩ ?_
 clear hR
 rintro j st ⟨i,hij,hR,hs2⟩
 refine zu hs2 ?_
 clear hs2
 by_cases hi : i < l.length
 . obtain ⟨j,rfl⟩ : ∃ q,j = q + 1:=⟨j - 1,by omega⟩
   have f1 : decide ((i : Int) < (l.length : Nat)) = true:=decide_eq_true (by omega)
   have hR' : R = (dirR (gD l i) && allI dirR l j (i + 1) && decide (l.length <= 16)):=hR
   clear hR
   have b0:=zAH hi
   have b1:=zZ (gD l i)
   have q0:=wD_f (gD l i) 0; have q0':=zAG ((gD l i).f 0)
   have q1:=wD_f (gD l i) 1; have q1':=z7 ((gD l i).f 1)
   have h1:=zAk ((gD l i).f 0).s (by omega)
   have h2:=zIu ((gD l i).f 1).l (by omega)
   repeat' (first
|apply zK
 . conv => lhs; whnf
 . assumption
|refine zB ?_
|refine zC ?_
|refine zQ ?_
|refine zU ?_
|apply aw_1
 conv => whnf
 refine ⟨?_,trivial⟩
|apply ze rfl rfl
 . conv => lhs; whnf
 . conv => lhs; whnf
 . first | exact bT1 ‹_› | exact bT2 ‹_›
|apply zm rfl rfl
 . conv => lhs; whnf
 . conv => lhs; whnf
 . first | exact bF1 ‹_› | exact bF2 ‹_›
|apply s_1
 conv => whnf; arg 1; arg 4; arg 3; whnf
 refine ⟨?_,?_⟩
|apply zl rfl
 . conv => lhs; whnf
 . conv => lhs; whnf
 . first | exact h1 | exact h2
|apply zJ rfl
 . conv => lhs; whnf
 . conv => lhs; whnf
 . first | rfl | assumption
 . conv => lhs; whnf; arg 2; whnf
|apply zX rfl
 . conv => lhs; whnf
 . conv => lhs; whnf
 . first | rfl | assumption
 . conv => lhs; whnf
 . first | exact h1 | exact h2
|apply zAA rfl
 . conv => lhs; whnf
 . conv => lhs; whnf
 . first | rfl | assumption
|apply zW rfl
 . conv => lhs; whnf
 . conv => lhs; whnf
 . conv => lhs; whnf; arg 2; whnf
|refine zV (by conv => lhs; whnf) ?_ ?_ <;> intro hb
|refine zN ?_
|refine zL ?_
|refine za ?_
|refine zD ?_
|refine ⟨_,by conv => lhs; whnf; arg 2; whnf,?_⟩; conv => rhs; whnf
|exact trivial
|intro hg)
   all_goals first
    | exact zo (by omega)
    | exact zCA hi
    | (have e : dirR (gD l i) = false:=by
        clear hR' he
        unfold dirR
        simp_all
       rw [hR',e]; rfl)
    | (have e : dirR (gD l i) = true:=by
        clear hR' he
        unfold dirR
        simp_all
       exact zF (j':=j) (by omega) ⟨i + 1,by omega,by rw [hR',e,Bool.true_and],Sub.live ⟨rfl,rfl,trivial⟩ trivial⟩)
    | skip
 . obtain rfl : j = 0:=by omega
   have f1 : decide ((i : Int) < (l.length : Nat)) = false:=decide_eq_false (by omega)
   repeat' (first
|apply zM
 . conv => lhs; whnf
 . assumption
|refine zB ?_
|refine zC ?_
|refine zQ ?_
|apply aw_1
 conv => whnf
 refine ⟨?_,trivial⟩
|apply s_1
 conv => whnf; arg 1; arg 4; arg 3; whnf
 refine ⟨?_,?_⟩
|refine zI ?_
|refine zE rfl ?_
|refine zG ?_
|refine zD ?_
|refine ⟨_,by conv => lhs; whnf; arg 2; whnf,?_⟩; conv => rhs; whnf
|exact trivial)
   rw [hR,allI,Bool.true_and,le16]
noncomputable def HCf (d : D) (i : Nat) : Vst 21:=stS 21 [(1,.bx 1 0),(3,.c (.int .i64 (i : Int)))] [(1,.box 84 (cellsV Tryz.prog 12 84 d))]
theorem zGt : ∀ (k : Nat) (d : D),Dp k d -> bulkD d <= 1000000000 -> AC EN Tryz.prog 135 [.agg (cellsV Tryz.prog 12 84 d)] (.c (.bool (bareR k d)))
 | 0,_,h,_ => h.elim
 | k + 1,d,h,hw => by
   have hin:=bk_in hw
   have hl:=hin.items
   have ih:=fun i (hi : i < (d.f 3).l.length) => zGt k (gD (d.f 3).l i) (h i hi) (by have:=hin.at_ i hi; omega)
   have hR : bareR (k + 1) d = (allI (bareR k) (d.f 3).l (d.f 3).l.length 0 && !((d.f 0).n == 7)):=by rw [zBw,Bool.and_comm]; rfl
   generalize bareR (k + 1) d = R at hR |-
   refine zO 21 Tryz.func135 rfl rfl rfl rfl ?_
   intro s w he
   repeat' (first
|refine zB ?_
|refine zC ?_
|refine zQ ?_
|apply aw_1
 conv => whnf
 refine ⟨?_,trivial⟩
|apply s_1
 conv => whnf; arg 1; arg 4; arg 3; whnf
 refine ⟨?_,?_⟩
|apply zAN rfl rfl rfl rfl
 . conv => lhs; whnf; arg 1; whnf
 . rfl
|exact trivial)
   refine zv (fun j st => ∃ i,i + j = (d.f 3).l.length /\ R = (allI (bareR k) (d.f 3).l j i && !((d.f 0).n == 7)) /\ Sub (cx EN Tryz.prog s w he) st (HCf d i)) (d.f 3).l.length ⟨0,by omega,hR,Sub.live ⟨rfl,rfl,trivial⟩ ⟨rfl,trivial⟩⟩ ?_
   clear hR
   rintro j st ⟨i,hij,hR,hs2⟩
   refine zu hs2 ?_
   clear hs2
   by_cases hi : i < (d.f 3).l.length
   . obtain ⟨j,rfl⟩ : ∃ q,j = q + 1:=⟨j - 1,by omega⟩
     have f1 : decide ((i : Int) < ((d.f 3).l.length : Nat)) = true:=decide_eq_true (by omega)
     have hR' : R = (bareR k (gD (d.f 3).l i) && allI (bareR k) (d.f 3).l j (i + 1) && !((d.f 0).n == 7)):=hR
     have ih2:=ih i hi
     repeat' (first
|apply zK
 . conv => lhs; whnf
 . assumption
|refine zB ?_
|refine zC ?_
|refine zQ ?_
|refine zU ?_
|apply aw_1
 conv => whnf
 refine ⟨?_,trivial⟩
|apply s_1
 conv => whnf; arg 1; arg 4; arg 3; whnf
 refine ⟨?_,?_⟩
|apply zl rfl
 . conv => lhs; whnf
 . conv => lhs; whnf
 . first | exact ih2
|refine zV (by conv => lhs; whnf) ?_ ?_ <;> intro hb
|refine zN ?_
|refine zL ?_
|refine za ?_
|refine zD ?_
|refine ⟨_,by conv => lhs; whnf; arg 2; whnf,?_⟩; conv => rhs; whnf
|exact trivial)
     all_goals first
      | exact zo (by omega)
      | exact zCA hi
      | (have e : bareR k (gD (d.f 3).l i) = false:=by simpa using (by assumption : (!bareR k (gD (d.f 3).l i)) = true)
         rw [hR',e]; rfl)
      | (have e : bareR k (gD (d.f 3).l i) = true:=by simpa using (by assumption : (!bareR k (gD (d.f 3).l i)) = false)
         exact zF (j':=j) (by omega) ⟨i + 1,by omega,by rw [hR',e,Bool.true_and],Sub.live ⟨rfl,rfl,trivial⟩ ⟨rfl,trivial⟩⟩)
      | skip
   . obtain rfl : j = 0:=by omega
     have f1 : decide ((i : Int) < ((d.f 3).l.length : Nat)) = false:=decide_eq_false (by omega)
     repeat' (first
|apply zM
 . conv => lhs; whnf
 . assumption
|refine zB ?_
|refine zC ?_
|refine zQ ?_
|apply aw_1
 conv => whnf
 refine ⟨?_,trivial⟩
|apply s_1
 conv => whnf; arg 1; arg 4; arg 3; whnf
 refine ⟨?_,?_⟩
|refine zI ?_
|refine zE rfl ?_
|refine zG ?_
|refine zD ?_
|refine ⟨_,by conv => lhs; whnf; arg 2; whnf,?_⟩; conv => rhs; whnf
|exact trivial)
     rw [hR,allI,Bool.true_and]; rfl
noncomputable def HTf (d : D) (i : Nat) : Vst 54:=stS 54 [(1,.bx 1 0),(3,.c (.int .i64 (i : Int)))] [(1,.box 71 (cellsV Tryz.prog 12 71 d))]
theorem refF_ac (d : D) (hs : (d.f 0).s.size <= 1000000000) (hl : (d.f 1).l.length <= 1000000000) : AC EN Tryz.prog 133 [.agg (cellsV Tryz.prog 12 71 d)] (.c (.bool (refR d))):=by
 have hn:=zAk (d.f 0).s hs
 have hR : refR d = (nameB (d.f 0).s && decide ((d.f 1).l.length <= 24) && wrapsI (d.f 1).l (d.f 1).l.length 0):=by rw [zHq]; rfl
 generalize refR d = R at hR |-
 have e : decide (((d.f 1).l.length : Int) > 24) = !decide ((d.f 1).l.length <= 24):=by
  rw [Bool.eq_iff_iff]
  simp only [decide_eq_true_eq,Bool.not_eq_true',decide_eq_false_iff_not]
  omega
 refine zO 54 Tryz.func133 rfl rfl rfl rfl ?_
 intro s w he
 repeat' (first
|refine zB ?_
|refine zC ?_
|refine zQ ?_
|apply aw_1
 conv => whnf
 refine ⟨?_,trivial⟩
|apply ze rfl rfl
 . conv => lhs; whnf
 . conv => lhs; whnf
 . first | exact bT1 ‹_› | exact bT2 ‹_›
|apply zm rfl rfl
 . conv => lhs; whnf
 . conv => lhs; whnf
 . first | exact bF1 ‹_› | exact bF2 ‹_›
|apply s_1
 conv => whnf; arg 1; arg 4; arg 3; whnf
 refine ⟨?_,?_⟩
|apply zl rfl
 . conv => lhs; whnf
 . conv => lhs; whnf
 . first | exact hn
|apply zAN rfl rfl rfl rfl
 . conv => lhs; whnf; arg 1; whnf
 . rfl
|apply zJ rfl
 . conv => lhs; whnf
 . conv => lhs; whnf
 . first | rfl | assumption
 . conv => lhs; whnf; arg 2; whnf
|apply zAA rfl
 . conv => lhs; whnf
 . conv => lhs; whnf
 . first | rfl | assumption
|apply zW rfl
 . conv => lhs; whnf
 . conv => lhs; whnf
 . conv => lhs; whnf; arg 2; whnf
|refine zV (by conv => lhs; whnf) ?_ ?_ <;> intro hb
|refine zN ?_
|refine zD ?_
|refine ⟨_,by conv => lhs; whnf; arg 2; whnf,?_⟩; conv => rhs; whnf
|exact trivial
|intro hg)
 . simp_all
   intros
   omega
 . have hR2 : R = wrapsI (d.f 1).l (d.f 1).l.length 0:=by simp_all
   clear hR hn
   refine zv (fun j st => ∃ i,i + j = (d.f 1).l.length /\ R = wrapsI (d.f 1).l j i /\ Sub (cx EN Tryz.prog s w he) st (HTf d i)) (d.f 1).l.length ⟨0,by omega,hR2,Sub.live ⟨rfl,rfl,trivial⟩ ⟨rfl,trivial⟩⟩ ?_
   clear hR2 hg hb e
   rintro j st ⟨i,hij,hR,hs2⟩
   refine zu hs2 ?_
   clear hs2
   by_cases hi : i < (d.f 1).l.length
   . obtain ⟨j,rfl⟩ : ∃ q,j = q + 1:=⟨j - 1,by omega⟩
     have f1 : decide ((i : Int) < ((d.f 1).l.length : Nat)) = true:=decide_eq_true (by omega)
     have e1 : decide ((i : Int) > 0) = decide (0 < i):=decide_eq_decide.2 (by omega)
     have eT : ((i : Int) - 1).toNat = i - 1:=by omega
     have hR' : R = (((gD (d.f (0 + 1)).l (i : Int).toNat).n == 1 || (gD (d.f (0 + 1)).l (i : Int).toNat).n == 2) && !((gD (d.f (0 + 1)).l (i : Int).toNat).n == 1 && decide ((i : Int) > 0) && ((gD (d.f (0 + 1)).l ((i : Int) - 1).toNat).n == (gD (d.f (0 + 1)).l (i : Int).toNat).n)) && wrapsI (d.f 1).l j (i + 1)):=by
      rw [hR,e1,eT,Int.toNat_natCast]; rfl
     clear hR e1
     repeat' (first
|apply zK
 . conv => lhs; whnf
 . assumption
|refine zB ?_
|refine zC ?_
|refine zQ ?_
|refine zU ?_
|apply aw_1
 conv => whnf
 refine ⟨?_,trivial⟩
|apply ze rfl rfl
 . conv => lhs; whnf
 . conv => lhs; whnf
 . first | exact bT1 ‹_› | exact bT2 ‹_›
|apply zm rfl rfl
 . conv => lhs; whnf
 . conv => lhs; whnf
 . first | exact bF1 ‹_› | exact bF2 ‹_›
|apply s_1
 conv => whnf; arg 1; arg 4; arg 3; whnf
 refine ⟨?_,?_⟩
|apply zJ rfl
 . conv => lhs; whnf
 . conv => lhs; whnf
 . first | rfl | assumption
 . conv => lhs; whnf; arg 2; whnf
|apply zAA rfl
 . conv => lhs; whnf
 . conv => lhs; whnf
 . first | rfl | assumption
|apply zW rfl
 . conv => lhs; whnf
 . conv => lhs; whnf
 . conv => lhs; whnf; arg 2; whnf
|refine zV (by conv => lhs; whnf) ?_ ?_ <;> intro hb
|refine zN ?_
|refine zL ?_
|refine za ?_
|refine zD ?_
|refine ⟨_,by conv => lhs; whnf; arg 2; whnf,?_⟩; conv => rhs; whnf
|exact trivial
|intro hg)
     all_goals first
      | exact zo (by omega)
      | exact zCA hi
      | (have h0 : (i : Int) > 0:=by simp_all
         exact (show 0 <= (i : Int) - 1 /\ (i : Int) - 1 < (((d.f 1).l.length : Nat) : Int) from ⟨by omega,by omega⟩))
      | (have h0 : (i : Int) > 0:=by simp_all
         exact zo (by omega))
      | (have hN : R = wrapsI (d.f 1).l j (i + 1):=by simp_all
         exact zF (j':=j) (by omega) ⟨i + 1,by omega,hN,Sub.live ⟨rfl,rfl,trivial⟩ ⟨rfl,trivial⟩⟩)
      | skip
     all_goals
      refine congrArg (fun b => V.c (.bool b)) ?_
      clear eT f1 hi hij he
      simp_all
   . obtain rfl : j = 0:=by omega
     have f1 : decide ((i : Int) < ((d.f 1).l.length : Nat)) = false:=decide_eq_false (by omega)
     repeat' (first
|apply zM
 . conv => lhs; whnf
 . assumption
|refine zB ?_
|refine zC ?_
|refine zQ ?_
|apply aw_1
 conv => whnf
 refine ⟨?_,trivial⟩
|apply s_1
 conv => whnf; arg 1; arg 4; arg 3; whnf
 refine ⟨?_,?_⟩
|refine zI ?_
|refine zE rfl ?_
|refine zG ?_
|refine zD ?_
|refine ⟨_,by conv => lhs; whnf; arg 2; whnf,?_⟩; conv => rhs; whnf
|exact trivial)
     rw [hR]; rfl
 . simp_all
theorem selsR_zero (p : D -> Bool) (l : List D) (lv : Nat) : selsR p l 0 lv = (decide (l.length = 0) || selsR p l 1 lv):=by
 unfold selsR
 cases l with
 | nil => simp
 | cons x r => simp
theorem selsR_one (p : D -> Bool) (l : List D) (lv : Nat) : selsR p l 1 lv = (!decide (l.length = 0) && decide (l.length <= 64) && decide (lv <= 24) && allI p l l.length 0):=by
 rw [zBw]
 unfold selsR
 cases l with
 | nil => simp
 | cons x r => simp
noncomputable def HSe (l : List D) (lv i : Nat) : Vst 31:=stS 31 [(0,.sl 76 l),(1,.c (.int .i64 (lv : Int))),(5,.c (.int .i64 (i : Int)))] []
theorem zH3 (l : List D) (lv : Nat) (p : D -> Bool) (hw : bulkL l <= 1000000000) (hc : ∀ i,i < l.length -> AC EN Tryz.prog 136 [.agg (cellsV Tryz.prog 12 76 (gD l i)),.c (.int .i64 (lv : Int))] (.c (.bool (p (gD l i))))) :
 AC EN Tryz.prog 68 [.sl 76 l,.c (.int .i64 (lv : Int))] (.c (.bool (selsR p l 1 lv))):=by
 have hl:=zA3 l
 have e1 : ((l.length : Int) == 0) = decide (l.length = 0):=by rw [Bool.eq_iff_iff]; simp only [beq_iff_eq,decide_eq_true_eq]; omega
 have e2 : decide ((l.length : Int) > 64) = !decide (l.length <= 64):=by rw [Bool.eq_iff_iff]; simp; omega
 have e4 : decide ((lv : Int) > 24) = !decide (lv <= 24):=by rw [Bool.eq_iff_iff]; simp; omega
 have hR:=selsR_one p l lv
 generalize selsR p l 1 lv = R at hR |-
 refine zO 31 Tryz.func68 rfl rfl rfl rfl ?_
 intro s w he
 by_cases hok : (!decide (l.length = 0) && decide (l.length <= 64) && decide (lv <= 24)) = true
 . have hR2 : R = allI p l l.length 0:=by rw [hR,hok,Bool.true_and]
   simp only [Bool.and_eq_true,Bool.not_eq_true',decide_eq_false_iff_not,decide_eq_true_eq] at hok
   have f1 : ((l.length : Int) == 0) = false:=by rw [e1]; exact decide_eq_false hok.1.1
   have f2 : decide ((l.length : Int) > 64) = false:=decide_eq_false (by omega)
   have f3 : decide ((lv : Int) > 24) = false:=decide_eq_false (by omega)
   have g1 : (((l.length : Int) == 0) == false) = true:=by rw [f1]; rfl
   have g2 : (decide ((l.length : Int) > 64) == false) = true:=by rw [f2]; rfl
   have k1 : (((l.length : Int) == 0) == false) = false -> False:=fun h => by rw [g1] at h; cases h
   have k2 : (decide ((l.length : Int) > 64) == false) = false -> False:=fun h => by rw [g2] at h; cases h
   clear hR e1 e2 e4
   repeat' (first
|apply zM
 . conv => lhs; whnf
 . assumption
|refine zB ?_
|refine zC ?_
|refine zQ ?_
|apply aw_1
 conv => whnf
 refine ⟨?_,trivial⟩
|apply zm rfl rfl
 . conv => lhs; whnf
 . conv => lhs; whnf
 . first | exact bF1 ‹_› | exact bF2 ‹_›
|apply s_1
 conv => whnf; arg 1; arg 4; arg 3; whnf
 refine ⟨?_,?_⟩
|apply zJ rfl
 . conv => lhs; whnf
 . conv => lhs; whnf
 . first | rfl | assumption
 . conv => lhs; whnf; arg 2; whnf
|exact trivial)
   refine zv (fun j st => ∃ i,i + j = l.length /\ R = allI p l j i /\ Sub (cx EN Tryz.prog s w he) st (HSe l lv i)) l.length ⟨0,by omega,hR2,Sub.live ⟨rfl,rfl,rfl,trivial⟩ trivial⟩ ?_
   clear hR2 f1 f2 f3 g1 g2 k1 k2
   rintro j st ⟨i,hij,hR,hs2⟩
   refine zu hs2 ?_
   clear hs2
   by_cases hi : i < l.length
   . obtain ⟨j,rfl⟩ : ∃ q,j = q + 1:=⟨j - 1,by omega⟩
     have f1 : decide ((i : Int) < (l.length : Nat)) = true:=decide_eq_true (by omega)
     have hR' : R = (p (gD l i) && allI p l j (i + 1)):=hR
     have h1:=hc i hi
     repeat' (first
|apply zK
 . conv => lhs; whnf
 . assumption
|refine zB ?_
|refine zC ?_
|refine zQ ?_
|refine zU ?_
|apply aw_1
 conv => whnf
 refine ⟨?_,trivial⟩
|apply s_1
 conv => whnf; arg 1; arg 4; arg 3; whnf
 refine ⟨?_,?_⟩
|apply zl rfl
 . conv => lhs; whnf
 . conv => lhs; whnf
 . first | exact h1
|refine zV (by conv => lhs; whnf) ?_ ?_ <;> intro hb
|refine zN ?_
|refine zL ?_
|refine za ?_
|refine zD ?_
|refine ⟨_,by conv => lhs; whnf; arg 2; whnf,?_⟩; conv => rhs; whnf
|exact trivial)
     all_goals first
      | exact zo (by omega)
      | exact zCA hi
      | (have e : p (gD l i) = false:=by simpa using (by assumption : (!p (gD l i)) = true)
         rw [hR',e]; rfl)
      | (have e : p (gD l i) = true:=by simpa using (by assumption : (!p (gD l i)) = false)
         exact zF (j':=j) (by omega) ⟨i + 1,by omega,by rw [hR',e,Bool.true_and],Sub.live ⟨rfl,rfl,rfl,trivial⟩ trivial⟩)
      | skip
   . obtain rfl : j = 0:=by omega
     have f1 : decide ((i : Int) < (l.length : Nat)) = false:=decide_eq_false (by omega)
     repeat' (first
|apply zM
 . conv => lhs; whnf
 . assumption
|refine zB ?_
|refine zC ?_
|refine zQ ?_
|apply aw_1
 conv => whnf
 refine ⟨?_,trivial⟩
|apply s_1
 conv => whnf; arg 1; arg 4; arg 3; whnf
 refine ⟨?_,?_⟩
|refine zI ?_
|refine zE rfl ?_
|refine zG ?_
|refine zD ?_
|refine ⟨_,by conv => lhs; whnf; arg 2; whnf,?_⟩; conv => rhs; whnf
|exact trivial)
     rw [hR]; rfl
 . have hok : (!decide (l.length = 0) && decide (l.length <= 64) && decide (lv <= 24)) = false:=by simpa using hok
   have hR2 : R = false:=by rw [hR,hok,Bool.false_and]
   subst hR2
   clear hR
   have K : ∀ {x y z : Bool},((l.length : Int) == 0) = x -> decide ((l.length : Int) > 64) = y -> decide ((lv : Int) > 24) = z -> x = false -> y = false -> z = false -> False:=fun h1 h2 h3 h4 h5 h6 => by
    rw [e1] at h1; rw [e2] at h2; rw [e4] at h3
    rw [h4] at h1; rw [h5] at h2; rw [h6] at h3
    simp only [h1,Bool.not_eq_false'] at h2 h3
    rw [h1,h2,h3] at hok
    cases hok
   by_cases f1 : ((l.length : Int) == 0) = true
   . have k1 : (((l.length : Int) == 0) == false) = true -> False:=fun h => by rw [f1] at h; cases h
     repeat' (first
|exact (k1 ‹_›).elim
|refine zB ?_
|refine zC ?_
|refine zQ ?_
|apply aw_1
 conv => whnf
 refine ⟨?_,trivial⟩
|apply ze rfl rfl
 . conv => lhs; whnf
 . conv => lhs; whnf
 . first | exact bT1 ‹_› | exact bT2 ‹_›
|apply s_1
 conv => whnf; arg 1; arg 4; arg 3; whnf
 refine ⟨?_,?_⟩
|apply zAA rfl
 . conv => lhs; whnf
 . conv => lhs; whnf
 . first | rfl | assumption
|apply zW rfl
 . conv => lhs; whnf
 . conv => lhs; whnf
 . conv => lhs; whnf; arg 2; whnf
|refine zN ?_
|refine zD ?_
|refine ⟨_,by conv => lhs; whnf; arg 2; whnf,?_⟩; conv => rhs; whnf
|exact trivial
|intro hg)
   . have f1 : ((l.length : Int) == 0) = false:=by simpa using f1
     have g1 : (((l.length : Int) == 0) == false) = true:=by rw [f1]; rfl
     have k1 : (((l.length : Int) == 0) == false) = false -> False:=fun h => by rw [g1] at h; cases h
     by_cases f2 : decide ((l.length : Int) > 64) = true
     . have k2 : (decide ((l.length : Int) > 64) == false) = true -> False:=fun h => by rw [f2] at h; cases h
       repeat' (first
|exact (k2 ‹_›).elim
|refine zB ?_
|refine zC ?_
|refine zQ ?_
|apply aw_1
 conv => whnf
 refine ⟨?_,trivial⟩
|apply ze rfl rfl
 . conv => lhs; whnf
 . conv => lhs; whnf
 . first | exact bT1 ‹_› | exact bT2 ‹_›
|apply zm rfl rfl
 . conv => lhs; whnf
 . conv => lhs; whnf
 . first | exact bF1 ‹_› | exact bF2 ‹_›
|apply s_1
 conv => whnf; arg 1; arg 4; arg 3; whnf
 refine ⟨?_,?_⟩
|apply zJ rfl
 . conv => lhs; whnf
 . conv => lhs; whnf
 . first | rfl | assumption
 . conv => lhs; whnf; arg 2; whnf
|apply zAA rfl
 . conv => lhs; whnf
 . conv => lhs; whnf
 . first | rfl | assumption
|apply zW rfl
 . conv => lhs; whnf
 . conv => lhs; whnf
 . conv => lhs; whnf; arg 2; whnf
|refine zN ?_
|refine zD ?_
|refine ⟨_,by conv => lhs; whnf; arg 2; whnf,?_⟩; conv => rhs; whnf
|exact trivial
|intro hg)
     . have f2 : decide ((l.length : Int) > 64) = false:=by simpa using f2
       have g2 : (decide ((l.length : Int) > 64) == false) = true:=by rw [f2]; rfl
       have k2 : (decide ((l.length : Int) > 64) == false) = false -> False:=fun h => by rw [g2] at h; cases h
       have f3 : decide ((lv : Int) > 24) = true:=by
        cases f3 : decide ((lv : Int) > 24) with
        | true => rfl
        | false => exact (K f1 f2 f3 rfl rfl rfl).elim
       repeat' (first
|apply zK
 . conv => lhs; whnf
 . assumption
|refine zB ?_
|refine zC ?_
|refine zQ ?_
|apply aw_1
 conv => whnf
 refine ⟨?_,trivial⟩
|apply zm rfl rfl
 . conv => lhs; whnf
 . conv => lhs; whnf
 . first | exact bF1 ‹_› | exact bF2 ‹_›
|apply s_1
 conv => whnf; arg 1; arg 4; arg 3; whnf
 refine ⟨?_,?_⟩
|apply zJ rfl
 . conv => lhs; whnf
 . conv => lhs; whnf
 . first | rfl | assumption
 . conv => lhs; whnf; arg 2; whnf
|refine zN ?_
|refine zD ?_
|refine ⟨_,by conv => lhs; whnf; arg 2; whnf,?_⟩; conv => rhs; whnf
|exact trivial)
theorem selF_ac : ∀ (k lv : Nat) (d : D),bulkD d <= k -> k <= 1000000000 -> lv + k <= 2000000000 -> AC EN Tryz.prog 136 [.agg (cellsV Tryz.prog 12 76 d),.c (.int .i64 (lv : Int))] (.c (.bool (selR k lv d)))
 | 0,_,d,h,_,_ => by have:=zAy d; omega
 | k + 1,lv,d,h,hk,hlv => by
   have hB:=sel_b (B:=1000000000) (d:=d) (by omega)
   have h1:=zAk (d.f 1).s hB.s1
   have h2:=zAk (d.f 2).s hB.s2
   have h3:=zAk (d.f 3).s hB.s3
   have h4:=zIu (d.f 4).l hB.l4
   have h5:=dirsF_ac (d.f 5).l hB.l5
   have h6:=zGI (d.f 2).s hB.s2
   have hs1:=zH3 (d.f 6).l (lv + 1) (selR k (lv + 1)) hB.l6B fun i hi => selF_ac k (lv + 1) _ (by have:=zAH hi; have:=hB.l6; omega) (by omega) (by omega)
   have hs0:=selsR_zero (selR k (lv + 1)) (d.f 6).l (lv + 1)
   have hz4 : (((d.f 4).l.length : Int) == 0) = decide ((d.f 4).l.length = 0):=by rw [Bool.eq_iff_iff]; simp
   have hz6 : (((d.f 6).l.length : Int) == 0) = decide ((d.f 6).l.length = 0):=by rw [Bool.eq_iff_iff]; simp
   have n1:=zD6 (d.f 1).s
   have n2:=zD6 (d.f 2).s
   have n3:=zD6 (d.f 3).s
   have e : cellsV Tryz.prog 12 76 d = [.c (.int .i64 (d.f 0).n),.c (.string (d.f 1).s),.c (.string (d.f 2).s),.c (.string (d.f 3).s),.sl 86 (d.f 4).l,.sl 150 (d.f 5).l,.sl 76 (d.f 6).l]:=rfl
   unfold selR
   rw [e,hs0]
   by_cases k1 : (d.f 0).n = 1
   . rw [if_pos k1,k1]
     refine zO 110 Tryz.func136 rfl rfl rfl rfl ?_
     intro s w he
     repeat' (first
|apply zAi rfl rfl rfl
 . conv => lhs; whnf
 . first | rfl | assumption
 . conv => lhs; whnf
 . first | exact bT1 ‹_› | exact bT2 ‹_› | rfl
|apply zAg rfl rfl rfl
 . conv => lhs; whnf
 . first | rfl | assumption
 . conv => lhs; whnf
 . first | exact bF1 ‹_› | exact bF2 ‹_› | rfl
|refine zB ?_
|refine zC ?_
|refine zQ ?_
|apply aw_1
 conv => whnf
 refine ⟨?_,trivial⟩
|apply ze rfl rfl
 . conv => lhs; whnf
 . conv => lhs; whnf
 . first | exact bT1 ‹_› | exact bT2 ‹_›
|apply zm rfl rfl
 . conv => lhs; whnf
 . conv => lhs; whnf
 . first | exact bF1 ‹_› | exact bF2 ‹_›
|apply s_1
 conv => whnf; arg 1; arg 4; arg 3; whnf
 refine ⟨?_,?_⟩
|apply zl rfl
 . conv => lhs; whnf
 . conv => lhs; whnf
 . first | exact h1 | exact h2 | exact h4 | exact h5 | exact hs1
|apply zAN rfl rfl rfl rfl
 . conv => lhs; whnf; arg 1; whnf
 . rfl
|apply zJ rfl
 . conv => lhs; whnf
 . conv => lhs; whnf
 . first | rfl | assumption
 . conv => lhs; whnf; arg 2; whnf
|apply zX rfl
 . conv => lhs; whnf
 . conv => lhs; whnf
 . first | rfl | assumption
 . conv => lhs; whnf
 . first | exact h1 | exact h2 | exact h4 | exact h5 | exact hs1
|apply zAA rfl
 . conv => lhs; whnf
 . conv => lhs; whnf
 . first | rfl | assumption
|apply zW rfl
 . conv => lhs; whnf
 . conv => lhs; whnf
 . conv => lhs; whnf; arg 2; whnf
|refine zV (by conv => lhs; whnf) ?_ ?_ <;> intro hb
|refine zN ?_
|refine zL ?_
|refine zD ?_
|refine ⟨_,by conv => lhs; whnf; arg 2; whnf,?_⟩; conv => rhs; whnf
|exact trivial
|intro hg)
     all_goals first
      | exact zo (by omega)
      | (clear h1 h2 h3 h4 h5 h6 hs0 hs1 he e hB
         refine congrArg (fun b => V.c (.bool b)) ?_
         simp only [n1,n2,n3,hz4,hz6] at *
         clear n1 n2 n3 hz4 hz6
         generalize argsR (d.f 4).l = a1 at *
         generalize dirsR (d.f 5).l = a2 at *
         generalize noneS (d.f 1).s = a3 at *
         generalize noneS (d.f 3).s = a4 at *
         generalize nameB (d.f 1).s = a5 at *
         generalize nameB (d.f 2).s = a6 at *
         generalize selsR (selR k (lv + 1)) (d.f 6).l 1 (lv + 1) = a7 at *
         generalize decide ((d.f 6).l.length = 0) = a8 at *
         clear k1 h hk hlv
         simp_all)
   rw [if_neg k1]
   by_cases k2 : (d.f 0).n = 2
   . rw [if_pos k2,k2]
     refine zO 110 Tryz.func136 rfl rfl rfl rfl ?_
     intro s w he
     repeat' (first
|refine zB ?_
|refine zC ?_
|refine zQ ?_
|apply aw_1
 conv => whnf
 refine ⟨?_,trivial⟩
|apply ze rfl rfl
 . conv => lhs; whnf
 . conv => lhs; whnf
 . first | exact bT1 ‹_› | exact bT2 ‹_›
|apply zm rfl rfl
 . conv => lhs; whnf
 . conv => lhs; whnf
 . first | exact bF1 ‹_› | exact bF2 ‹_›
|apply s_1
 conv => whnf; arg 1; arg 4; arg 3; whnf
 refine ⟨?_,?_⟩
|apply zl rfl
 . conv => lhs; whnf
 . conv => lhs; whnf
 . first | exact h4 | exact h5 | exact h6
|apply zAN rfl rfl rfl rfl
 . conv => lhs; whnf; arg 1; whnf
 . rfl
|apply zJ rfl
 . conv => lhs; whnf
 . conv => lhs; whnf
 . first | rfl | assumption
 . conv => lhs; whnf; arg 2; whnf
|apply zX rfl
 . conv => lhs; whnf
 . conv => lhs; whnf
 . first | rfl | assumption
 . conv => lhs; whnf
 . first | exact h4 | exact h5 | exact h6
|apply zAA rfl
 . conv => lhs; whnf
 . conv => lhs; whnf
 . first | rfl | assumption
|apply zW rfl
 . conv => lhs; whnf
 . conv => lhs; whnf
 . conv => lhs; whnf; arg 2; whnf
|refine zV (by conv => lhs; whnf) ?_ ?_ <;> intro hb
|refine zN ?_
|refine zL ?_
|refine zD ?_
|refine ⟨_,by conv => lhs; whnf; arg 2; whnf,?_⟩; conv => rhs; whnf
|exact trivial
|intro hg)
     all_goals
      clear h1 h2 h3 h4 h5 h6 hs0 hs1 he e hB
      refine congrArg (fun b => V.c (.bool b)) ?_
      simp only [n1,n2,n3,hz4,hz6] at *
      clear n1 n2 n3 hz4 hz6
      generalize argsR (d.f 4).l = a1 at *
      generalize dirsR (d.f 5).l = a2 at *
      generalize noneS (d.f 1).s = a3 at *
      generalize noneS (d.f 3).s = a4 at *
      generalize decide ((d.f 4).l.length = 0) = a5 at *
      generalize decide ((d.f 6).l.length = 0) = a6 at *
      generalize titleR (d.f 2).s = a7 at *
      clear k1 k2 h hk hlv
      simp_all
   rw [if_neg k2]
   by_cases k3 : (d.f 0).n = 3
   . rw [if_pos k3,k3]
     refine zO 110 Tryz.func136 rfl rfl rfl rfl ?_
     intro s w he
     repeat' (first
|apply zAi rfl rfl rfl
 . conv => lhs; whnf
 . first | rfl | assumption
 . conv => lhs; whnf
 . first | exact bT1 ‹_› | exact bT2 ‹_› | rfl
|apply zAg rfl rfl rfl
 . conv => lhs; whnf
 . first | rfl | assumption
 . conv => lhs; whnf
 . first | exact bF1 ‹_› | exact bF2 ‹_› | rfl
|refine zB ?_
|refine zC ?_
|refine zQ ?_
|apply aw_1
 conv => whnf
 refine ⟨?_,trivial⟩
|apply ze rfl rfl
 . conv => lhs; whnf
 . conv => lhs; whnf
 . first | exact bT1 ‹_› | exact bT2 ‹_›
|apply zm rfl rfl
 . conv => lhs; whnf
 . conv => lhs; whnf
 . first | exact bF1 ‹_› | exact bF2 ‹_›
|apply s_1
 conv => whnf; arg 1; arg 4; arg 3; whnf
 refine ⟨?_,?_⟩
|apply zl rfl
 . conv => lhs; whnf
 . conv => lhs; whnf
 . first | exact h3 | exact h4 | exact h5 | exact hs1
|apply zAN rfl rfl rfl rfl
 . conv => lhs; whnf; arg 1; whnf
 . rfl
|apply zJ rfl
 . conv => lhs; whnf
 . conv => lhs; whnf
 . first | rfl | assumption
 . conv => lhs; whnf; arg 2; whnf
|apply zX rfl
 . conv => lhs; whnf
 . conv => lhs; whnf
 . first | rfl | assumption
 . conv => lhs; whnf
 . first | exact h3 | exact h4 | exact h5 | exact hs1
|apply zAA rfl
 . conv => lhs; whnf
 . conv => lhs; whnf
 . first | rfl | assumption
|apply zW rfl
 . conv => lhs; whnf
 . conv => lhs; whnf
 . conv => lhs; whnf; arg 2; whnf
|refine zV (by conv => lhs; whnf) ?_ ?_ <;> intro hb
|refine zN ?_
|refine zL ?_
|refine zD ?_
|refine ⟨_,by conv => lhs; whnf; arg 2; whnf,?_⟩; conv => rhs; whnf
|exact trivial
|intro hg)
     all_goals first
      | exact zo (by omega)
      | (clear h1 h2 h3 h4 h5 h6 hs0 hs1 he e hB
         refine congrArg (fun b => V.c (.bool b)) ?_
         simp only [n1,n2,n3,hz4,hz6] at *
         clear n1 n2 n3 hz4 hz6
         generalize argsR (d.f 4).l = a1 at *
         generalize dirsR (d.f 5).l = a2 at *
         generalize noneS (d.f 1).s = a3 at *
         generalize noneS (d.f 2).s = a4 at *
         generalize noneS (d.f 3).s = a5 at *
         generalize nameB (d.f 3).s = a6 at *
         generalize decide ((d.f 4).l.length = 0) = a8 at *
         generalize selsR (selR k (lv + 1)) (d.f 6).l 1 (lv + 1) = a7 at *
         clear k1 k2 k3 h hk hlv
         simp_all)
   rw [if_neg k3]
   have f1 : ((d.f 0).n == 1) = false:=by simpa using k1
   have f2 : ((d.f 0).n == 2) = false:=by simpa using k2
   have f3 : ((d.f 0).n == 3) = false:=by simpa using k3
   refine zO 110 Tryz.func136 rfl rfl rfl rfl ?_
   intro s w he
   repeat' (first
|apply zM
 . conv => lhs; whnf
 . assumption
|refine zB ?_
|refine zC ?_
|refine zQ ?_
|refine zU ?_
|apply aw_1
 conv => whnf
 refine ⟨?_,trivial⟩
|apply ze rfl rfl
 . conv => lhs; whnf
 . conv => lhs; whnf
 . first | exact bT1 ‹_› | exact bT2 ‹_›
|apply zm rfl rfl
 . conv => lhs; whnf
 . conv => lhs; whnf
 . first | exact bF1 ‹_› | exact bF2 ‹_›
|apply s_1
 conv => whnf; arg 1; arg 4; arg 3; whnf
 refine ⟨?_,?_⟩
|apply zl rfl
 . conv => lhs; whnf
 . conv => lhs; whnf
 . first | exact h4 | exact h5
|apply zAN rfl rfl rfl rfl
 . conv => lhs; whnf; arg 1; whnf
 . rfl
|apply zJ rfl
 . conv => lhs; whnf
 . conv => lhs; whnf
 . first | rfl | assumption
 . conv => lhs; whnf; arg 2; whnf
|apply zX rfl
 . conv => lhs; whnf
 . conv => lhs; whnf
 . first | rfl | assumption
 . conv => lhs; whnf
 . first | exact h4 | exact h5
|apply zAA rfl
 . conv => lhs; whnf
 . conv => lhs; whnf
 . first | rfl | assumption
|apply zW rfl
 . conv => lhs; whnf
 . conv => lhs; whnf
 . conv => lhs; whnf; arg 2; whnf
|refine zV (by conv => lhs; whnf) ?_ ?_ <;> intro hb
|refine zN ?_
|refine zD ?_
|refine ⟨_,by conv => lhs; whnf; arg 2; whnf,?_⟩; conv => rhs; whnf
|exact trivial
|intro hg)
   all_goals
    clear h1 h2 h3 h4 h5 h6 hs0 hs1 he e hB
    refine congrArg (fun b => V.c (.bool b)) ?_
    simp
theorem setF_ac (l : List D) (hw : bulkL l <= 1000000000) : AC EN Tryz.prog 68 [.sl 76 l,.c (.int .i64 1)] (.c (.bool (setR l))):=
 zH3 l 1 (selR (bulkL l) 1) hw fun i hi => selF_ac _ _ _ (zAH hi) hw (by omega)
theorem lit_null {v : D} (hn : (v.f 0).n = 0) : (litR v && bareR (bulkD v) v) = (((v.f 1).n == 0 && noneS (v.f 2).s && decide ((v.f 3).l.length = 0)) && decide ((v.f 4).l.length = 0)):=by
 obtain ⟨k,hk⟩ : ∃ k,bulkD v = k + 1:=⟨bulkD v - 1,by have:=zAy v; omega⟩
 unfold litR
 rw [hk]
 have e1 : everyL (k + 1) v = (nodeL v && !((v.f 3).l.any fun x => !everyL k x)):=rfl
 have e2 : bareR (k + 1) v = (!((v.f 0).n == 7) && !((v.f 3).l.any fun x => !bareR k x)):=rfl
 have e3 : sizeR (k + 1) v = 1 + sumN (fun i => sizeR k (gD (v.f 3).l i)) (v.f 3).l.length:=rfl
 have e4 : depthR (k + 1) v = maxN (fun i => depthR k (gD (v.f 3).l i)) (v.f 3).l.length + 1:=rfl
 have e5 : nodeL v = ((v.f 1).n == 0 && noneS (v.f 2).s && decide ((v.f 3).l.length = 0) && decide ((v.f 4).l.length = 0)):=by
  rw [<- nodeD_L]
  unfold zFo nodeF
  rw [if_pos hn]
  unfold noneS
  by_cases h4 : (v.f 4).l.length = 0
  . rw [List.eq_nil_of_length_eq_zero h4]
    by_cases h3 : (v.f 3).l.length = 0
    . simp [h3]
    . simp [h3]
  . have : ((v.f 4).l.length == 0) = false:=by simpa using h4
    simp [h4]
 rw [e1,e2,e3,e4,e5,hn]
 by_cases h3 : (v.f 3).l.length = 0
 . rw [List.eq_nil_of_length_eq_zero h3]
   simp [sumN,maxN]
 . simp [h3]
def varF (d : D) : Bool:=nameB (d.f 0).s && refR (d.f 1) && litR (d.f 3) && bareR (bulkD (d.f 3)) (d.f 3) && ((d.f 2).b || ((d.f 3).f 0).n == 0)
theorem varF_R (d : D) : varF d = varR d:=by
 unfold varF varR
 by_cases h : (d.f 2).b = true
 . rw [if_pos h,h]
   generalize nameB (d.f 0).s = a1
   generalize refR (d.f 1) = a2
   cases a1 <;> cases a2 <;> simp
 . have hb : (d.f 2).b = false:=by simpa using h
   rw [if_neg h,hb]
   by_cases hn : ((d.f 3).f 0).n = 0
   . have e:=lit_null hn
     rw [hn]
     generalize litR (d.f 3) = b1 at *
     generalize bareR (bulkD (d.f 3)) (d.f 3) = b2 at *
     have z : ((0 : Int) == 0) = true:=rfl
     rw [z]
     simp only [Bool.false_or,Bool.and_true,Bool.true_and]
     rw [Bool.and_assoc (nameB (d.f 0).s && refR (d.f 1)) b1 b2,e]
   . have : (((d.f 3).f 0).n == 0) = false:=by simpa using hn
     rw [this]
     simp
def varsR (l : List D) : Bool:=decide (l.length <= 16) && !(l.any fun x => !varR x)
noncomputable def HVf (l : List D) (i : Nat) : Vst 49:=stS 49 [(0,.sl 88 l),(3,.c (.int .i64 (i : Int)))] []
theorem varsF_ac (l : List D) (hw : bulkL l <= 1000000000) : AC EN Tryz.prog 67 [.sl 88 l] (.c (.bool (varsR l))):=by
 have hl:=zA3 l
 have hR : varsR l = (allI varF l l.length 0 && decide (l.length <= 16)):=by
  rw [zBw,Bool.and_comm]
  have : (fun x => !varF x) = fun x => !varR x:=funext fun x => by rw [varF_R]
  rw [this]; rfl
 generalize varsR l = R at hR |-
 refine zO 49 Tryz.func67 rfl rfl rfl rfl ?_
 intro s w he
 repeat' (first
|refine zB ?_
|refine zC ?_
|refine zQ ?_
|apply aw_1
 conv => whnf
 refine ⟨?_,trivial⟩
|apply s_1
 conv => whnf; arg 1; arg 4; arg 3; whnf
 refine ⟨?_,?_⟩
|exact trivial)
 refine zv (fun j st => ∃ i,i + j = l.length /\ R = (allI varF l j i && decide (l.length <= 16)) /\ Sub (cx EN Tryz.prog s w he) st (HVf l i)) l.length ⟨0,by omega,hR,Sub.live ⟨rfl,rfl,trivial⟩ trivial⟩ ?_
 clear hR
 rintro j st ⟨i,hij,hR,hs2⟩
 refine zu hs2 ?_
 clear hs2
 by_cases hi : i < l.length
 . obtain ⟨j,rfl⟩ : ∃ q,j = q + 1:=⟨j - 1,by omega⟩
   have f1 : decide ((i : Int) < (l.length : Nat)) = true:=decide_eq_true (by omega)
   have hR' : R = (varF (gD l i) && allI varF l j (i + 1) && decide (l.length <= 16)):=hR
   clear hR
   have b0:=zAH hi
   have b1:=zZ (gD l i)
   have q0:=wD_f (gD l i) 0; have q0':=zAG ((gD l i).f 0)
   have q1:=wD_f (gD l i) 1
   have q3:=wD_f (gD l i) 3; have q3':=zZ ((gD l i).f 3)
   have r0:=wD_f ((gD l i).f 1) 0; have r0':=zAG (((gD l i).f 1).f 0)
   have r1:=wD_f ((gD l i).f 1) 1; have r1':=z7 (((gD l i).f 1).f 1); have r1'':=zA3 (((gD l i).f 1).f 1).l
   have h1:=zAk ((gD l i).f 0).s (by omega)
   have h2:=refF_ac ((gD l i).f 1) (by omega) (by omega)
   have h3:=litF_ac ((gD l i).f 3) (by omega)
   have h4:=zGt _ ((gD l i).f 3) (zEk (bulkD ((gD l i).f 3)) ((gD l i).f 3) (Nat.le_refl _)) (by omega)
   repeat' (first
|apply zK
 . conv => lhs; whnf
 . assumption
|refine zB ?_
|refine zC ?_
|refine zQ ?_
|refine zU ?_
|apply aw_1
 conv => whnf
 refine ⟨?_,trivial⟩
|apply ze rfl rfl
 . conv => lhs; whnf
 . conv => lhs; whnf
 . first | exact bT1 ‹_› | exact bT2 ‹_›
|apply zm rfl rfl
 . conv => lhs; whnf
 . conv => lhs; whnf
 . first | exact bF1 ‹_› | exact bF2 ‹_›
|apply s_1
 conv => whnf; arg 1; arg 4; arg 3; whnf
 refine ⟨?_,?_⟩
|apply zl rfl
 . conv => lhs; whnf
 . conv => lhs; whnf
 . first | exact h1 | exact h2 | exact h3 | exact h4
|apply zz rfl rfl rfl
 . conv => lhs; whnf
 . conv => lhs; whnf; arg 1; whnf
 . conv => lhs; whnf; arg 1; whnf
 . exact ⟨by kernel_rfl,by kernel_rfl⟩
 . rfl
|apply zJ rfl
 . conv => lhs; whnf
 . conv => lhs; whnf
 . first | rfl | assumption
 . conv => lhs; whnf; arg 2; whnf
|apply zX rfl
 . conv => lhs; whnf
 . conv => lhs; whnf
 . first | rfl | assumption
 . conv => lhs; whnf
 . first | exact h1 | exact h2 | exact h3 | exact h4
|apply zAA rfl
 . conv => lhs; whnf
 . conv => lhs; whnf
 . first | rfl | assumption
|apply zW rfl
 . conv => lhs; whnf
 . conv => lhs; whnf
 . conv => lhs; whnf; arg 2; whnf
|refine zV (by conv => lhs; whnf) ?_ ?_ <;> intro hb
|refine zN ?_
|refine zL ?_
|refine za ?_
|refine zD ?_
|refine ⟨_,by conv => lhs; whnf; arg 2; whnf,?_⟩; conv => rhs; whnf
|exact trivial
|intro hg)
   all_goals first
    | exact zo (by omega)
    | exact zCA hi
    | skip
   all_goals first
    | (have e : varF (gD l i) = false:=by
        clear hR' he h1 h2 h3 h4 q0 q0' q1 q3 q3' r0 r0' r1 r1' r1'' b0 b1
        unfold varF
        simp_all
       rw [hR',e]; rfl)
    | (have e : varF (gD l i) = true:=by
        clear hR' he h1 h2 h3 h4 q0 q0' q1 q3 q3' r0 r0' r1 r1' r1'' b0 b1
        unfold varF
        simp_all
       exact zF (j':=j) (by omega) ⟨i + 1,by omega,by rw [hR',e,Bool.true_and],Sub.live ⟨rfl,rfl,trivial⟩ trivial⟩)
    | skip
 . obtain rfl : j = 0:=by omega
   have f1 : decide ((i : Int) < (l.length : Nat)) = false:=decide_eq_false (by omega)
   repeat' (first
|apply zM
 . conv => lhs; whnf
 . assumption
|refine zB ?_
|refine zC ?_
|refine zQ ?_
|apply aw_1
 conv => whnf
 refine ⟨?_,trivial⟩
|apply s_1
 conv => whnf; arg 1; arg 4; arg 3; whnf
 refine ⟨?_,?_⟩
|refine zI ?_
|refine zE rfl ?_
|refine zG ?_
|refine zD ?_
|refine ⟨_,by conv => lhs; whnf; arg 2; whnf,?_⟩; conv => rhs; whnf
|exact trivial)
   rw [hR,allI,Bool.true_and,le16]
theorem queR_all (a b : List D) : queR (.obj [.list a,.list b]) = (decide (1 <= a.length + b.length /\ a.length + b.length <= 64) && allI opR a a.length 0 && allI fragR b b.length 0):=by
 rw [zF9,zBw]; rfl
noncomputable def HRo (a b : List D) (i : Nat) : Vst 92:=stS 92 [(1,.bx 1 0),(4,.c (.int .i64 (i : Int)))] [(1,.box 41 [.sl 57 a,.sl 116 b])]
noncomputable def HRf (a b : List D) (i : Nat) : Vst 92:=stS 92 [(1,.bx 1 0),(6,.c (.int .i64 (i : Int)))] [(1,.box 41 [.sl 57 a,.sl 116 b])]
theorem rightF_ac (a b : List D) (hwa : bulkL a <= 1000000000) (hwb : bulkL b <= 1000000000) : AC EN Tryz.prog 32 [.agg [.sl 57 a,.sl 116 b]] (.c (.bool (queR (.obj [.list a,.list b])))):=by
 have hla:=zA3 a
 have hlb:=zA3 b
 have hR:=queR_all a b
 generalize queR (.obj [.list a,.list b]) = R at hR |-
 have e1 : decide ((a.length : Int) + (b.length : Int) < 1) = !decide (1 <= a.length + b.length):=by
  rw [Bool.eq_iff_iff]
  simp only [decide_eq_true_eq,Bool.not_eq_true',decide_eq_false_iff_not]
  omega
 have e2 : decide ((a.length : Int) + (b.length : Int) > 64) = !decide (a.length + b.length <= 64):=by
  rw [Bool.eq_iff_iff]
  simp only [decide_eq_true_eq,Bool.not_eq_true',decide_eq_false_iff_not]
  omega
 rw [Bool.decide_and] at hR
 refine zO 92 Tryz.func32 rfl rfl rfl rfl ?_
 intro s w he
 repeat' (first
|refine zB ?_
|refine zC ?_
|refine zQ ?_
|apply aw_1
 conv => whnf
 refine ⟨?_,trivial⟩
|apply ze rfl rfl
 . conv => lhs; whnf
 . conv => lhs; whnf
 . first | exact bT1 ‹_› | exact bT2 ‹_›
|apply zm rfl rfl
 . conv => lhs; whnf
 . conv => lhs; whnf
 . first | exact bF1 ‹_› | exact bF2 ‹_›
|apply s_1
 conv => whnf; arg 1; arg 4; arg 3; whnf
 refine ⟨?_,?_⟩
|apply zAN rfl rfl rfl rfl
 . conv => lhs; whnf; arg 1; whnf
 . rfl
|apply zJ rfl
 . conv => lhs; whnf
 . conv => lhs; whnf
 . first | rfl | assumption
 . conv => lhs; whnf; arg 2; whnf
|apply zAA rfl
 . conv => lhs; whnf
 . conv => lhs; whnf
 . first | rfl | assumption
|apply zW rfl
 . conv => lhs; whnf
 . conv => lhs; whnf
 . conv => lhs; whnf; arg 2; whnf
|refine zV (by conv => lhs; whnf) ?_ ?_ <;> intro hb
|refine zN ?_
|refine zD ?_
|refine ⟨_,by conv => lhs; whnf; arg 2; whnf,?_⟩; conv => rhs; whnf
|exact trivial
|intro hg)
 . simp only [e1,e2] at *
   generalize decide (a.length + b.length <= 64) = x at *
   simp_all
 . have hR2 : R = (allI opR a a.length 0 && allI fragR b b.length 0):=by
    simp only [e1,e2] at *
    simp_all
   clear hR hb hg e1 e2
   refine zv (fun j st => ∃ i,i + j = a.length /\ R = (allI opR a j i && allI fragR b b.length 0) /\ Sub (cx EN Tryz.prog s w he) st (HRo a b i)) a.length ⟨0,by omega,hR2,Sub.live ⟨rfl,rfl,trivial⟩ ⟨rfl,trivial⟩⟩ ?_
   clear hR2
   rintro j st ⟨i,hij,hR,hs2⟩
   refine zu hs2 ?_
   clear hs2
   by_cases hi : i < a.length
   . obtain ⟨j,rfl⟩ : ∃ q,j = q + 1:=⟨j - 1,by omega⟩
     have f1 : decide ((i : Int) < (a.length : Nat)) = true:=decide_eq_true (by omega)
     have b0:=zAH hi
     have b1:=zZ (gD a i)
     have q1:=wD_f (gD a i) 1; have q1':=zAG ((gD a i).f 1)
     have q2:=wD_f (gD a i) 2; have q2':=z7 ((gD a i).f 2)
     have q3:=wD_f (gD a i) 3; have q3':=z7 ((gD a i).f 3)
     have h1:=zAk ((gD a i).f 1).s (by omega)
     have h2:=varsF_ac ((gD a i).f 2).l (by omega)
     have h3:=setF_ac ((gD a i).f 3).l (by omega)
     have g1 : decide (((gD a i).f 0).n < 1) = !decide (1 <= ((gD a i).f 0).n):=by
      rw [Bool.eq_iff_iff]
      simp only [decide_eq_true_eq,Bool.not_eq_true',decide_eq_false_iff_not]
      omega
     have g2 : decide (((gD a i).f 0).n > 3) = !decide (((gD a i).f 0).n <= 3):=by
      rw [Bool.eq_iff_iff]
      simp only [decide_eq_true_eq,Bool.not_eq_true',decide_eq_false_iff_not]
      omega
     have g4:=zD6 ((gD a i).f 1).s
     have hR' : R = ((decide (1 <= ((gD a i).f 0).n) && decide (((gD a i).f 0).n <= 3)) && (noneS ((gD a i).f 1).s || nameB ((gD a i).f 1).s) && varsR ((gD a i).f 2).l && setR ((gD a i).f 3).l && allI opR a j (i + 1) && allI fragR b b.length 0):=by
      have hop : opR (gD a i) = ((decide (1 <= ((gD a i).f 0).n) && decide (((gD a i).f 0).n <= 3)) && (noneS ((gD a i).f 1).s || nameB ((gD a i).f 1).s) && varsR ((gD a i).f 2).l && setR ((gD a i).f 3).l):=by
       rw [<- Bool.decide_and]
       unfold opR varsR
       simp only [Bool.and_assoc]
      rw [hR,<- hop]; rfl
     clear hR b0 b1 q1 q1' q2 q2' q3 q3'
     repeat' (first
|apply zAi rfl rfl rfl
 . conv => lhs; whnf
 . first | rfl | assumption
 . conv => lhs; whnf
 . first | exact bT1 ‹_› | exact bT2 ‹_› | rfl
|apply zAg rfl rfl rfl
 . conv => lhs; whnf
 . first | rfl | assumption
 . conv => lhs; whnf
 . first | exact bF1 ‹_› | exact bF2 ‹_› | rfl
|apply zK
 . conv => lhs; whnf
 . assumption
|refine zB ?_
|refine zC ?_
|refine zQ ?_
|refine zU ?_
|apply aw_1
 conv => whnf
 refine ⟨?_,trivial⟩
|apply ze rfl rfl
 . conv => lhs; whnf
 . conv => lhs; whnf
 . first | exact bT1 ‹_› | exact bT2 ‹_›
|apply zm rfl rfl
 . conv => lhs; whnf
 . conv => lhs; whnf
 . first | exact bF1 ‹_› | exact bF2 ‹_›
|apply s_1
 conv => whnf; arg 1; arg 4; arg 3; whnf
 refine ⟨?_,?_⟩
|apply zz rfl rfl rfl
 . conv => lhs; whnf
 . conv => lhs; whnf; arg 1; whnf
 . conv => lhs; whnf; arg 1; whnf
 . exact ⟨by kernel_rfl,by kernel_rfl⟩
 . rfl
|apply zJ rfl
 . conv => lhs; whnf
 . conv => lhs; whnf
 . first | rfl | assumption
 . conv => lhs; whnf; arg 2; whnf
|apply zX rfl
 . conv => lhs; whnf
 . conv => lhs; whnf
 . first | rfl | assumption
 . conv => lhs; whnf
 . first | exact h1 | exact h2 | exact h3
|apply zAA rfl
 . conv => lhs; whnf
 . conv => lhs; whnf
 . first | rfl | assumption
|apply zW rfl
 . conv => lhs; whnf
 . conv => lhs; whnf
 . conv => lhs; whnf; arg 2; whnf
|refine zV (by conv => lhs; whnf) ?_ ?_ <;> intro hb
|refine zN ?_
|refine zL ?_
|refine za ?_
|refine zD ?_
|refine ⟨_,by conv => lhs; whnf; arg 2; whnf,?_⟩; conv => rhs; whnf
|exact trivial
|intro hg)
     all_goals first
      | exact zo (by omega)
      | exact zCA hi
      | refine congrArg (fun b => V.c (.bool b)) ?_
      | refine zF (j':=j) (by omega) ⟨i + 1,by omega,?_,Sub.live ⟨rfl,rfl,trivial⟩ ⟨rfl,trivial⟩⟩
     all_goals
      clear h1 h2 h3
      simp only [Int.toNat_natCast,Nat.reduceAdd,g1,g2,g4] at *
      clear g1 g2 g4
      generalize setR ((gD a i).f 3).l = a1 at *
      generalize varsR ((gD a i).f 2).l = a2 at *
      generalize noneS ((gD a i).f 1).s = a4 at *
      generalize nameB ((gD a i).f 1).s = a5 at *
      generalize decide (((gD a i).f 0).n <= 3) = a6 at *
      generalize decide (1 <= ((gD a i).f 0).n) = a7 at *
      generalize allI fragR b b.length 0 = a8 at *
      generalize allI opR a j (i + 1) = a9 at *
      clear f1 hi hij he
      simp_all
   . obtain rfl : j = 0:=by omega
     have f1 : decide ((i : Int) < (a.length : Nat)) = false:=decide_eq_false (by omega)
     have hR2 : R = allI fragR b b.length 0:=by rw [hR,allI,Bool.true_and]
     clear hR
     repeat' (first
|apply zM
 . conv => lhs; whnf
 . assumption
|refine zB ?_
|refine zC ?_
|refine zQ ?_
|apply aw_1
 conv => whnf
 refine ⟨?_,trivial⟩
|apply s_1
 conv => whnf; arg 1; arg 4; arg 3; whnf
 refine ⟨?_,?_⟩
|refine zI ?_
|refine zE rfl ?_
|refine zG ?_
|exact trivial)
     refine zv (fun j st => ∃ i,i + j = b.length /\ R = allI fragR b j i /\ Sub (cx EN Tryz.prog s w he) st (HRf a b i)) b.length ⟨0,by omega,hR2,Sub.live ⟨rfl,rfl,trivial⟩ ⟨rfl,trivial⟩⟩ ?_
     clear hR2
     rintro j2 st2 ⟨i2,hij2,hR,hs2⟩
     refine zu hs2 ?_
     clear hs2
     by_cases hi2 : i2 < b.length
     . obtain ⟨j2,rfl⟩ : ∃ q,j2 = q + 1:=⟨j2 - 1,by omega⟩
       have f2 : decide ((i2 : Int) < (b.length : Nat)) = true:=decide_eq_true (by omega)
       have b0:=zAH hi2
       have b1:=zZ (gD b i2)
       have q0:=wD_f (gD b i2) 0; have q0':=zAG ((gD b i2).f 0)
       have q1:=wD_f (gD b i2) 1; have q1':=zAG ((gD b i2).f 1)
       have q2:=wD_f (gD b i2) 2; have q2':=z7 ((gD b i2).f 2)
       have h1:=zGI ((gD b i2).f 0).s (by omega)
       have h2:=zAk ((gD b i2).f 1).s (by omega)
       have h3:=setF_ac ((gD b i2).f 2).l (by omega)
       have hR' : R = (titleR ((gD b i2).f 0).s && nameB ((gD b i2).f 1).s && setR ((gD b i2).f 2).l && allI fragR b j2 (i2 + 1)):=hR
       clear hR b0 b1 q0 q0' q1 q1' q2 q2'
       repeat' (first
|apply zK
 . conv => lhs; whnf
 . assumption
|refine zB ?_
|refine zC ?_
|refine zQ ?_
|refine zU ?_
|apply aw_1
 conv => whnf
 refine ⟨?_,trivial⟩
|apply ze rfl rfl
 . conv => lhs; whnf
 . conv => lhs; whnf
 . first | exact bT1 ‹_› | exact bT2 ‹_›
|apply zm rfl rfl
 . conv => lhs; whnf
 . conv => lhs; whnf
 . first | exact bF1 ‹_› | exact bF2 ‹_›
|apply s_1
 conv => whnf; arg 1; arg 4; arg 3; whnf
 refine ⟨?_,?_⟩
|apply zl rfl
 . conv => lhs; whnf
 . conv => lhs; whnf
 . first | exact h1 | exact h2 | exact h3
|apply zz rfl rfl rfl
 . conv => lhs; whnf
 . conv => lhs; whnf; arg 1; whnf
 . conv => lhs; whnf; arg 1; whnf
 . exact ⟨by kernel_rfl,by kernel_rfl⟩
 . rfl
|apply zJ rfl
 . conv => lhs; whnf
 . conv => lhs; whnf
 . first | rfl | assumption
 . conv => lhs; whnf; arg 2; whnf
|apply zX rfl
 . conv => lhs; whnf
 . conv => lhs; whnf
 . first | rfl | assumption
 . conv => lhs; whnf
 . first | exact h1 | exact h2 | exact h3
|apply zAA rfl
 . conv => lhs; whnf
 . conv => lhs; whnf
 . first | rfl | assumption
|apply zW rfl
 . conv => lhs; whnf
 . conv => lhs; whnf
 . conv => lhs; whnf; arg 2; whnf
|refine zV (by conv => lhs; whnf) ?_ ?_ <;> intro hb
|refine zN ?_
|refine zL ?_
|refine za ?_
|refine zD ?_
|refine ⟨_,by conv => lhs; whnf; arg 2; whnf,?_⟩; conv => rhs; whnf
|exact trivial
|intro hg)
       all_goals first
        | exact zo (by omega)
        | exact zCA hi2
        | refine congrArg (fun b => V.c (.bool b)) ?_
        | refine zF (j':=j2) (by omega) ⟨i2 + 1,by omega,?_,Sub.live ⟨rfl,rfl,trivial⟩ ⟨rfl,trivial⟩⟩
       all_goals
        clear h1 h2 h3
        try simp only [Int.toNat_natCast,Nat.reduceAdd] at *
        generalize titleR ((gD b i2).f 0).s = a1 at *
        generalize nameB ((gD b i2).f 1).s = a2 at *
        generalize setR ((gD b i2).f 2).l = a4 at *
        generalize allI fragR b j2 (i2 + 1) = a8 at *
        clear f2 hi2 hij2 he hi hij f1
        simp_all
     . obtain rfl : j2 = 0:=by omega
       have f2 : decide ((i2 : Int) < (b.length : Nat)) = false:=decide_eq_false (by omega)
       repeat' (first
|apply zM
 . conv => lhs; whnf
 . assumption
|refine zB ?_
|refine zC ?_
|refine zQ ?_
|apply aw_1
 conv => whnf
 refine ⟨?_,trivial⟩
|apply s_1
 conv => whnf; arg 1; arg 4; arg 3; whnf
 refine ⟨?_,?_⟩
|refine zI ?_
|refine zE rfl ?_
|refine zG ?_
|refine zD ?_
|refine ⟨_,by conv => lhs; whnf; arg 2; whnf,?_⟩; conv => rhs; whnf
|exact trivial)
       rw [hR]; rfl
 . simp only [e1,e2] at *
   simp_all
 . exact zo (by omega)
end Go.Proofs.YthjiclhfhjdjpaaGreatDoor
namespace Go.Proofs.YthjiclhfhjdjpaaGreatDoor
def Hr {α : Type} (Q : α -> PS -> Prop) (r : PR α) : Prop:=∀ v z,r = .ok (v,z) -> Q v z
section
variable {α β : Type} {Q : α -> PS -> Prop} {R : β -> PS -> Prop}
theorem Hr.okk {v : α} {z : PS} (h : Q v z) : Hr Q (.ok (v,z) : PR α):=fun _ _ e => by cases e; exact h
theorem Hr.err {e : Nat × Int} : Hr Q (.error e : PR α):=fun _ _ h => by cases h
theorem Hr.ite {c : Prop} [Decidable c] {a b : PR α} (h1 : c -> Hr Q a) (h2 : ¬ c -> Hr Q b) : Hr Q (if c then a else b):=by
 split
 . exact h1 ‹_›
 . exact h2 ‹_›
theorem Hr.then {r : PR α} {f : α -> PS -> PR β} (h : Hr Q r) (hf : ∀ a x,Q a x -> Hr R (f a x)) : Hr R (zAX r f):=by
 cases hr : r with
 | error e =>
   rw [zD2 (r:=.error e) rfl]
   exact .err
 | ok p =>
   obtain ⟨a,x⟩:=p
   rw [zFb (r:=.ok (a,x)) rfl]
   exact hf a x (h a x hr)
theorem Hr.mono {r : PR α} {Q' : α -> PS -> Prop} (h : Hr Q r) (hq : ∀ a x,Q a x -> Q' a x) : Hr Q' r:=fun v z e => hq v z (h v z e)
end
def GT (x : PS) : Prop:=∀ t ∈ x.ts,(t.k = 2 -> nameB ⟨t.s.toArray⟩ = true) /\ 1 <= t.k /\ t.k <= 5
theorem GT.nx {x : PS} (h : GT x) : GT (nxT x):=fun t ht => by
 unfold nxT at ht
 split at ht
 . exact h t ht
 . exact h t (List.mem_of_mem_drop ht)
theorem nx_vr (x : PS) : (nxT x).vr = x.vr:=by unfold nxT; split <;> rfl
theorem nx_nd2 (x : PS) : (nxT x).nd = x.nd:=by unfold nxT; split <;> rfl
theorem GT.hd {x : PS} (h : GT x) : ((hdT x).k = 2 -> nameB ⟨(hdT x).s.toArray⟩ = true) /\ 1 <= (hdT x).k /\ (hdT x).k <= 5:=by
 unfold hdT
 cases hx : x.ts with
 | nil => exact ⟨fun h => absurd h (by decide),by decide,by decide⟩
 | cons t r => exact h t (by rw [hx]; exact List.mem_cons_self ..)
structure Pv (x z : PS) : Prop where
 gt : GT z
 vr : z.vr = x.vr
theorem Pv.trans {x y z : PS} (h1 : Pv x y) (h2 : Pv y z) : Pv x z:=⟨h2.gt,h2.vr.trans h1.vr⟩
theorem GT.pvn {x : PS} (h : GT x) : Pv x (nxT x):=⟨h.nx,nx_vr x⟩
theorem name_rt {x : PS} (h : GT x) : Hr (fun n z => nameB ⟨n.toArray⟩ = true /\ Pv x z /\ z.nd = x.nd) (zBn x):=by
 unfold zBn
 exact .ite (fun hk => .okk ⟨h.hd.1 hk,h.pvn,nx_nd2 x⟩) fun _ => .err
structure VOk (lv : Nat) (vr : Bool) (n0 : Nat) (v : D) (n1 : Nat) : Prop where
 sz : ∀ k,Dp k v -> sizeR k v + n0 = n1
 dp : ∀ k,Dp k v -> depthR k v + lv <= 25
 ev : ∀ k,Dp k v -> everyL k v = true
 br : vr = false -> ∀ k,Dp k v -> bareR k v = true
structure CH (lv : Nat) (vr : Bool) (n0 : Nat) (l : List D) (n1 : Nat) : Prop where
 sz : ∀ k,(∀ i,i < l.length -> Dp k (gD l i)) -> sumN (fun i => sizeR k (gD l i)) l.length + n0 = n1
 dp : ∀ i,i < l.length -> ∀ k,Dp k (gD l i) -> depthR k (gD l i) + lv <= 25
 ev : ∀ i,i < l.length -> ∀ k,Dp k (gD l i) -> everyL k (gD l i) = true
 br : vr = false -> ∀ i,i < l.length -> ∀ k,Dp k (gD l i) -> bareR k (gD l i) = true
theorem CH.nil {lv : Nat} {vr : Bool} {n : Nat} : CH lv vr n [] n:=
 ⟨fun k _ => by simp [sumN],fun i hi => absurd hi (Nat.not_lt_zero i),fun i hi => absurd hi (Nat.not_lt_zero i),fun _ i hi => absurd hi (Nat.not_lt_zero i)⟩
section
variable {val : PS -> PR D} {lv n0 : Nat} {vr : Bool} (hv : ∀ y,GT y -> y.vr = vr -> y.nd <= 4096 -> Hr (fun v z => Pv y z /\ VOk lv vr y.nd v z.nd /\ z.nd <= 4096) (val y))
include hv
end
def Al (p : D -> Bool) (l : List D) : Prop:=∀ i,i < l.length -> p (gD l i) = true
theorem Al.nil {p : D -> Bool} : Al p []:=fun i hi => absurd hi (Nat.not_lt_zero i)
theorem Hr.name {β : Type} {R : β -> PS -> Prop} {x : PS} {f : List UInt8 -> PS -> PR β} (h : GT x) (hf : ∀ n z,(hdT x).k = 2 -> nameB ⟨n.toArray⟩ = true -> Pv x z -> Hr R (f n z)) : Hr R (zAX (zBn x) f):=by
 by_cases hk : (hdT x).k = 2
 . exact .then (name_rt h) fun n z hz => hf n z hk hz.1 hz.2.1
 . unfold zBn
   rw [if_neg hk]
   exact .err
abbrev KS:=List (Int × List UInt8)
def gK (g : Nat -> KS) (j m : Nat) : KS:=(List.range' j m).flatMap g
theorem gK_last (g : Nat -> KS) : ∀ m,gK g 0 (m + 1) = gK g 0 m ++ g m:=fun m => by
 unfold gK
 rw [List.range'_concat,List.flatMap_append]
 simp
def Gap (sep : List UInt8) : Prop:=Ps sep [] /\ sep ≠ [] /\ bnd sep
theorem Gap.line : Gap [10]:=⟨.sep rfl,by decide,bnd_cons (by decide)⟩
theorem Pw.gap {a b sep : List UInt8} {ka kb : KS} (h : Pw a ka) (hs : Gap sep) (k : Pw b kb) : Pw (a ++ sep ++ b) (ka ++ kb):=by
 have h1:=h.app hs.1 ⟨hs.2.1,hs.2.2⟩
 rw [List.append_nil] at h1
 exact h1.appw k
theorem Pw.join {f : Nat -> List UInt8} {g : Nat -> KS} {sep : List UInt8} (hs : Gap sep) : ∀ n,(∀ i,i < n -> Pw (f i) (g i)) -> Pw (Lib.join ((List.range n).map f) sep) (gK g 0 n)
 | 0,_ => Ps.nil.w
 | n + 1,h => by
   have ih:=Pw.join (f:=f) (g:=g) hs n fun i hi => h i (by omega)
   rw [gK_last,List.range_succ,List.map_append]
   cases n with
   | zero =>
     have e : Lib.join ((List.range 0).map f ++ [0].map f) sep = f 0:=by simp [Lib.join_one]
     rw [e]
     exact h 0 (by omega)
   | succ n =>
     have e : (List.range (n + 1)).map f ≠ []:=fun e => by have:=congrArg List.length e; simp at this
     rw [List.map_cons,List.map_nil,zCg _ _ _ e]
     exact ih.gap hs (h (n + 1) (by omega))
structure NodeF (d : D) : Prop where
 int0 : (d.f 0).n = 1 \/ (d.f 0).n = 2 \/ (d.f 1).n = 0
 txt0 : (d.f 0).n = 3 \/ (d.f 0).n = 4 \/ (d.f 0).n = 7 \/ tx (d.f 2).s = []
 keys0 : (d.f 0).n = 6 \/ (d.f 4).l.length = 0
 items0 : (d.f 0).n = 6 \/ (d.f 0).n = 5 \/ (d.f 3).l.length = 0
 kind : 0 <= (d.f 0).n /\ (d.f 0).n <= 7
 bool : (d.f 0).n = 1 -> (d.f 1).n = 0 \/ (d.f 1).n = 1
 enum : (d.f 0).n = 4 -> enumR (d.f 2).s = true
 var : (d.f 0).n = 7 -> nameB (d.f 2).s = true
 obj : (d.f 0).n = 6 -> (∀ i,i < (d.f 4).l.length -> nameB (gD (d.f 4).l i).s = true) /\ (d.f 4).l.length = (d.f 3).l.length /\ (strsR d).Nodup
theorem zEq {p : D -> Bool} {l : List D} (h : (l.any fun x => !p x) = false) : ∀ i,i < l.length -> p (gD l i) = true:=fun i hi => by
 rw [List.any_eq_false] at h
 have:=h _ (gD_mem hi)
 simpa using this
theorem xnode {d : D} (h : nodeL d = true) : NodeF d:=by
 unfold nodeL nodeK at h
 simp only [Bool.and_eq_true,Bool.or_eq_true,beq_iff_eq,decide_eq_true_eq,Bool.not_eq_true',beq_eq_false_iff_ne] at h
 obtain ⟨⟨⟨⟨⟨⟨⟨⟨h1,h2⟩,h3⟩,h4⟩,h5⟩,h6⟩,h7⟩,h8⟩,h9⟩:=h
 refine ⟨?_,?_,h3,?_,h5,?_,?_,?_,?_⟩
 . rcases h1 with (h | h) | h
   . exact .inl h
   . exact .inr (.inl h)
   . exact .inr (.inr h)
 . rcases h2 with ((h | h) | h) | h
   . exact .inl h
   . exact .inr (.inl h)
   . exact .inr (.inr (.inl h))
   . exact .inr (.inr (.inr h))
 . rcases h4 with (h | h) | h
   . exact .inl h
   . exact .inr (.inl h)
   . exact .inr (.inr h)
 . intro h
   rcases h6 with (h' | h') | h'
   . exact absurd h h'
   . exact .inl h'
   . exact .inr h'
 . intro h
   rcases h7 with h' | h'
   . exact absurd h h'
   . exact h'
 . intro h
   rcases h8 with h' | h'
   . exact absurd h h'
   . exact h'
 . intro h
   rcases h9 with h' | h'
   . exact absurd h h'
   . exact ⟨zEq h'.1.1,h'.1.2,h'.2⟩
theorem every_node {k : Nat} {d : D} (h : everyL (k + 1) d = true) : NodeF d /\ ∀ i,i < (d.f 3).l.length -> everyL k (gD (d.f 3).l i) = true:=by
 unfold everyL at h
 rw [Bool.and_eq_true,Bool.not_eq_true'] at h
 exact ⟨xnode h.1,zEq h.2⟩
theorem argsR_all {l : List D} (h : argsR l = true) : l.length <= 16 /\ ∀ i,i < l.length -> nameB ((gD l i).f 0).s = true /\ litR ((gD l i).f 1) = true:=by
 unfold argsR at h
 rw [Bool.and_eq_true,Bool.not_eq_true',decide_eq_true_eq] at h
 refine ⟨h.1,fun i hi => ?_⟩
 have:=zEq h.2 i hi
 unfold argR at this
 rwa [Bool.and_eq_true] at this
theorem dirsR_all {l : List D} (h : dirsR l = true) : l.length <= 16 /\ ∀ i,i < l.length -> nameB ((gD l i).f 0).s = true /\ argsR ((gD l i).f 1).l = true:=by
 unfold dirsR at h
 rw [Bool.and_eq_true,Bool.not_eq_true',decide_eq_true_eq] at h
 refine ⟨h.1,fun i hi => ?_⟩
 have:=zEq h.2 i hi
 unfold dirR at this
 rwa [Bool.and_eq_true] at this
structure SelF (sub : List D -> Nat -> Prop) (d : D) : Prop where
 args : argsR (d.f 4).l = true
 dirs : dirsR (d.f 5).l = true
 field : (d.f 0).n = 1 -> tx (d.f 3).s = [] /\ nameB (d.f 2).s = true /\ (tx (d.f 1).s = [] \/ nameB (d.f 1).s = true) /\ sub (d.f 6).l 0
 spread : (d.f 0).n = 2 -> tx (d.f 3).s = [] /\ tx (d.f 1).s = [] /\ (d.f 4).l.length = 0 /\ (d.f 6).l.length = 0 /\ nameB (d.f 2).s = true /\ tx (d.f 2).s ≠ [111,110]
 inline : (d.f 0).n = 3 -> tx (d.f 1).s = [] /\ tx (d.f 2).s = [] /\ (d.f 4).l.length = 0 /\ (tx (d.f 3).s = [] \/ nameB (d.f 3).s = true) /\ sub (d.f 6).l 1
 kind : (d.f 0).n = 1 \/ (d.f 0).n = 2 \/ (d.f 0).n = 3
theorem zEY {s : ByteArray} : noneS s = true ↔ tx s = []:=by unfold noneS tx; rw [beq_iff_eq]
theorem zHu {s : ByteArray} (h : titleR s = true) : nameB s = true /\ tx s ≠ [111,110]:=by
 unfold titleR at h
 rw [Bool.and_eq_true,Bool.not_eq_true',beq_eq_false_iff_ne] at h
 exact h
def SetF (sel : D -> Prop) (lv : Nat) (l : List D) (least : Nat) : Prop:=least <= l.length /\ l.length <= 64 /\ (l.length = 0 \/ lv <= 24) /\ ∀ i,i < l.length -> sel (gD l i)
theorem xset {sel : D -> Bool} {l : List D} {least lv : Nat} (h : selsR sel l least lv = true) : SetF (fun d => sel d = true) lv l least:=by
 unfold selsR at h
 simp only [Bool.and_eq_true,Bool.or_eq_true,decide_eq_true_eq,Bool.not_eq_true'] at h
 exact ⟨h.1.1.1,h.1.1.2,h.1.2,zEq h.2⟩
theorem xsel {k lv : Nat} {d : D} (h : selR (k + 1) lv d = true) : SelF (fun l least => SetF (fun x => selR k (lv + 1) x = true) (lv + 1) l least) d:=by
 unfold selR at h
 rw [Bool.and_eq_true,Bool.and_eq_true] at h
 obtain ⟨⟨h1,h2⟩,h3⟩:=h
 by_cases k1 : (d.f 0).n = 1
 . rw [if_pos k1] at h3
   simp only [Bool.and_eq_true,Bool.or_eq_true,zEY] at h3
   exact ⟨h1,h2,fun _ => ⟨h3.1.1.1,h3.1.1.2,h3.1.2,xset h3.2⟩,fun e => by omega,fun e => by omega,.inl k1⟩
 rw [if_neg k1] at h3
 by_cases k2 : (d.f 0).n = 2
 . rw [if_pos k2] at h3
   simp only [Bool.and_eq_true,zEY,decide_eq_true_eq] at h3
   have ht:=zHu h3.2
   exact ⟨h1,h2,fun e => absurd e k1,fun _ => ⟨h3.1.1.1.1,h3.1.1.1.2,h3.1.1.2,h3.1.2,ht.1,ht.2⟩,fun e => by omega,.inr (.inl k2)⟩
 rw [if_neg k2] at h3
 by_cases k3 : (d.f 0).n = 3
 . rw [if_pos k3] at h3
   simp only [Bool.and_eq_true,Bool.or_eq_true,zEY,decide_eq_true_eq] at h3
   exact ⟨h1,h2,fun e => absurd e k1,fun e => absurd e k2,fun _ => ⟨h3.1.1.1.1,h3.1.1.1.2,h3.1.1.2,h3.1.2,xset h3.2⟩,.inr (.inr k3)⟩
 . rw [if_neg k3] at h3; cases h3
structure VarF (v : D) : Prop where
 name : nameB (v.f 0).s = true
 rname : nameB ((v.f 1).f 0).s = true
 rlen : ((v.f 1).f 1).l.length <= 24
 wraps : zE0 (((v.f 1).f 1).l.map D.n) = true
 has : (v.f 2).b = true -> litR (v.f 3) = true /\ bareR (bulkD (v.f 3)) (v.f 3) = true
 hasnt : (v.f 2).b = false -> ((v.f 3).f 0).n = 0 /\ ((v.f 3).f 1).n = 0 /\ tx ((v.f 3).f 2).s = [] /\ ((v.f 3).f 3).l.length = 0 /\ ((v.f 3).f 4).l.length = 0
theorem xvar {v : D} (h : varR v = true) : VarF v:=by
 unfold varR refR at h
 simp only [Bool.and_eq_true,decide_eq_true_eq] at h
 obtain ⟨⟨h1,⟨h2,h3⟩,h4⟩,h5⟩:=h
 refine ⟨h1,h2,h3,h4,fun e => ?_,fun e => ?_⟩
 . rw [if_pos e] at h5
   rwa [Bool.and_eq_true] at h5
 . rw [if_neg (by rw [e]; decide)] at h5
   simp only [Bool.and_eq_true,beq_iff_eq,zEY,decide_eq_true_eq] at h5
   exact ⟨h5.1.1.1.1,h5.1.1.1.2,h5.1.1.2,h5.1.2,h5.2⟩
structure OpF (o : D) : Prop where
 kind : 1 <= (o.f 0).n /\ (o.f 0).n <= 3
 name : tx (o.f 1).s = [] \/ nameB (o.f 1).s = true
 vlen : (o.f 2).l.length <= 16
 vars : ∀ i,i < (o.f 2).l.length -> VarF (gD (o.f 2).l i)
 sels : SetF (fun d => selR (bulkL (o.f 3).l) 1 d = true) 1 (o.f 3).l 1
structure FragF (o : D) : Prop where
 name : nameB (o.f 0).s = true
 notOn : tx (o.f 0).s ≠ [111,110]
 on : nameB (o.f 1).s = true
 sels : SetF (fun d => selR (bulkL (o.f 2).l) 1 d = true) 1 (o.f 2).l 1
theorem xop {o : D} (h : opR o = true) : OpF o:=by
 unfold opR setR at h
 simp only [Bool.and_eq_true,Bool.or_eq_true,decide_eq_true_eq,Bool.not_eq_true',zEY] at h
 obtain ⟨⟨⟨⟨h1,h2⟩,h3⟩,h4⟩,h5⟩:=h
 exact ⟨h1,h2,h3,fun i hi => xvar (zEq h4 i hi),xset h5⟩
theorem xfrag {o : D} (h : fragR o = true) : FragF o:=by
 unfold fragR setR at h
 simp only [Bool.and_eq_true] at h
 have ht:=zHu h.1.1
 exact ⟨ht.1,ht.2,h.1.2,xset h.2⟩
structure QueF (q : D) : Prop where
 len : 1 <= (q.f 0).l.length + (q.f 1).l.length /\ (q.f 0).l.length + (q.f 1).l.length <= 64
 ops : ∀ i,i < (q.f 0).l.length -> OpF (gD (q.f 0).l i)
 frags : ∀ i,i < (q.f 1).l.length -> FragF (gD (q.f 1).l i)
theorem xque {q : D} (h : queR q = true) : QueF q:=by
 unfold queR at h
 simp only [Bool.and_eq_true,decide_eq_true_eq,Bool.not_eq_true'] at h
 refine ⟨h.1.1,fun i hi => xop ?_,fun i hi => xfrag (zEq h.2 i hi)⟩
 exact List.all_eq_true.1 h.1.2 _ (gD_mem hi)
def SDp : Nat -> List D -> Prop
 | 0,l => l = []
 | f + 1,l => ∀ i,i < l.length -> SDp f ((gD l i).f 6).l
structure QuePs (f : Nat) (q : D) : Prop where
 right : QueF q
 wide : wideD q
 ops : ∀ i,i < (q.f 0).l.length -> SDp f ((gD (q.f 0).l i).f 3).l
 frags : ∀ i,i < (q.f 1).l.length -> SDp f ((gD (q.f 1).l i).f 2).l
end Go.Proofs.YthjiclhfhjdjpaaGreatDoor
namespace Go.Proofs.YthjiclhfhjdjpaaGreatDoor
open Go.RowKit
theorem zIY {k : Nat} {d : D} (h : Fits Tryz.prog k 9 d) : ∃ s,d = .str s:=by
 cases k with
 | zero => exact h.elim
 | succ k => unfold Fits at h; rw [Tryz.underlying9] at h; exact h
theorem fits_i {k : Nat} {d : D} (h : Fits Tryz.prog k 3 d) : ∃ n,d = .int n:=by
 cases k with
 | zero => exact h.elim
 | succ k => unfold Fits at h; rw [Tryz.underlying3] at h; exact h
theorem zIa {P : Program} {t e : TypeId} (hu : P.underlying t = some (.slice e)) {k : Nat} {d : D} (h : Fits P k t d) : ∃ j l,d = .list l /\ ∀ i,i < l.length -> Fits P j e (gD l i):=by
 cases k with
 | zero => exact h.elim
 | succ k => unfold Fits at h; rw [hu] at h; exact ⟨k,h⟩
theorem zIZ {P : Program} {t : TypeId} {fs : Array Field} (hu : P.underlying t = some (.struct fs)) {k : Nat} {d : D} (h : Fits P k t d) : ∃ j l,d = .obj l /\ l.length = fs.size /\ ∀ i f,fs[i]? = some f -> Fits P j f.type (gD l i):=by
 cases k with
 | zero => exact h.elim
 | succ k => unfold Fits at h; rw [hu] at h; exact ⟨k,h⟩
end Go.Proofs.YthjiclhfhjdjpaaGreatDoor
namespace Go.Proofs.YthjiclhfhjdjpaaGreatDoor
theorem good_of : ∀ (K m : Nat) (d : D),everyL m d = true -> goodV K d
 | 0,_,_,_ => trivial
 | K + 1,0,_,h => by cases h
 | K + 1,m + 1,d,h => by
   obtain ⟨hn,hi⟩:=every_node h
   exact ⟨hn.bool,fun i hl => good_of K m _ (hi i hl)⟩
theorem zIE {K : Nat} {d : D} (h : litR d = true) : goodV K d:=by
 unfold litR at h
 rw [Bool.and_eq_true] at h
 exact good_of K _ d h.2
theorem zB2 {l : List D} {i : Nat} (h : i < l.length) (j : Nat) : bulkD ((gD l i).f j) <= bulkL l /\ bulkL ((gD l i).f j).l <= bulkL l:=by
 have h1:=zAH h
 have h2:=wD_f (gD l i) j
 have h3:=zZ (gD l i)
 have h4:=zZ ((gD l i).f j)
 have h5:=z7 ((gD l i).f j)
 omega
section
variable {K : Nat} (hK : 8388608 <= K)
include hK
theorem zGy {l : List D} (h : argsR l = true) (hw : ∀ i,wideD (gD l i)) (hb : bulkL l <= 8388608) : ArgsOk K l:=
 ⟨hw,hb,fun i hi => zEk K _ (by have:=(zB2 hi 1).1; omega),fun i hi => zIE ((argsR_all h).2 i hi).2⟩
theorem dirsOk_of {l : List D} (h : dirsR l = true) (hw : ∀ i,wideD (gD l i)) (hb : bulkL l <= 8388608) : DirsOk K l:=
 ⟨hw,hb,fun i hi => zGy hK ((dirsR_all h).2 i hi).2 (fun q => ((hw i).f 1).l q) (by have:=(zB2 hi 1).2; omega)⟩
theorem zEQ : ∀ (f k lv : Nat) (l : List D),(∀ i,i < l.length -> selR k lv (gD l i) = true) -> (l.length = 0 \/ lv <= 24) -> 25 <= f + lv -> (∀ i,wideD (gD l i)) -> bulkL l <= 8388608 -> SelsOk K f l
 | 0,_,lv,l,_,h1,h2,_,_ => by
   show l = []
   rcases h1 with h1 | h1
   . exact List.length_eq_zero_iff.1 h1
   . omega
 | f + 1,k,lv,l,h,h1,h2,hw,hb => fun i hi => by
   have h3:=h i hi
   cases k with
   | zero => cases h3
   | succ k =>
     have hs:=xsel h3
     refine ⟨zGy hK hs.args (fun q => ((hw i).f 4).l q) (by have:=(zB2 hi 4).2; omega),dirsOk_of hK hs.dirs (fun q => ((hw i).f 5).l q) (by have:=(zB2 hi 5).2; omega),?_,?_⟩
     . rcases hs.kind with e | e | e
       . exact .inl e
       . exact .inr (.inl ⟨e,List.length_eq_zero_iff.1 (hs.spread e).2.2.2.1⟩)
       . refine .inr (.inr ⟨e,fun q => ?_⟩)
         have:=(hs.inline e).2.2.2.2.1
         rw [q] at this
         simp at this
     . have hsub : (∀ j,j < ((gD l i).f 6).l.length -> selR k (lv + 1) (gD ((gD l i).f 6).l j) = true) /\ (((gD l i).f 6).l.length = 0 \/ lv + 1 <= 24):=by
        rcases hs.kind with e | e | e
        . have:=(hs.field e).2.2.2
          exact ⟨this.2.2.2,this.2.2.1⟩
        . have:=(hs.spread e).2.2.2.1
          exact ⟨fun j hj => by omega,.inl this⟩
        . have:=(hs.inline e).2.2.2.2
          exact ⟨this.2.2.2,this.2.2.1⟩
       exact zEQ f k (lv + 1) _ hsub.1 hsub.2 (by omega) (fun q => ((hw i).f 6).l q) (by have:=(zB2 hi 6).2; omega)
theorem varsOk_of {l : List D} (h : ∀ i,i < l.length -> VarF (gD l i)) (hw : ∀ i,wideD (gD l i)) (hb : bulkL l <= 8388608) : VarsOk K l:=
 ⟨hw,hb,fun i hi => zEk K _ (by have:=(zB2 hi 3).1; omega),fun i hi => by
   cases e : ((gD l i).f 2).b with
   | true => exact zIE ((h i hi).has e).1
   | false =>
     obtain ⟨h1,-,-,h4,-⟩:=(h i hi).hasnt e
     cases K with
     | zero => trivial
     | succ K => exact ⟨fun q => by omega,fun j hj => by omega⟩⟩
end
theorem zIi {q : D} (h : queR q = true) (hw : wideD q) (hb : bulkD q <= 8388608) : DocOk 8388608 24 q:=by
 have hq:=xque h
 have h0:=wD_f q 0
 have h1:=wD_f q 1
 have h2:=z7 (q.f 0)
 have h3:=z7 (q.f 1)
 have h4:=zZ q
 refine ⟨hw,hb,by omega,fun i hi => ?_,fun i hi => ?_,fun i hi => ?_⟩
 . exact varsOk_of (Nat.le_refl _) (hq.ops i hi).vars (fun z => (((hw.f 0).l i).f 2).l z) (by have:=(zB2 hi 2).2; omega)
 . exact zEQ (Nat.le_refl _) 25 _ 1 _ (hq.ops i hi).sels.2.2.2 (.inr (by omega)) (by omega) (fun z => (((hw.f 0).l i).f 3).l z) (by have:=(zB2 hi 3).2; omega)
 . exact zEQ (Nat.le_refl _) 25 _ 1 _ (hq.frags i hi).sels.2.2.2 (.inr (by omega)) (by omega) (fun z => (((hw.f 1).l i).f 2).l z) (by have:=(zB2 hi 2).2; omega)
end Go.Proofs.YthjiclhfhjdjpaaGreatDoor
namespace Go.Proofs.YthjiclhfhjdjpaaGreatDoor
open Go.RowKit
attribute [local irreducible] wpList Calls Code.wp
def sg0 (W : World) : Sg:=⟨fun b o => (W.cell? ⟨b,o,none⟩).isSome,fun _ => none,fun _ => none,fun _ => (undef,0)⟩
end Go.Proofs.YthjiclhfhjdjpaaGreatDoor
namespace Go.Proofs.YthjiclhfhjdjpaaGreatDoor
open Go.ChangeShapes Go.WideShapes Go.ChangeAt Go.RowKit
attribute [local irreducible] wpList Calls Code.wp
def closedB (P : Program) (S : List TypeId) : Bool:=S.all fun t => match P.underlying t with
 | some .bool => true
 | some .string => true
 | some (.int q) => match q with | .i64 => true | _ => false
 | some (.slice e) => S.contains e && Nat.blt 0 (P.cellsOf e)
 | some (.struct fs) => fs.toList.all fun f => S.contains f.type
 | _ => false
theorem zD0 : ∀ {l : List D},(∀ i,i < l.length -> wideD (gD l i)) -> wideL l
 | [],_ => trivial
 | d :: r,h => ⟨h 0 (by simp),zD0 fun i hi => by
   have:=h (i + 1) (by simpa using hi)
   simpa [gD] using this⟩
theorem zG5 {P : Program} {w : World} {I : Nat -> Prop} {S : List TypeId} (hS : closedB P S = true) : ∀ {k : Nat} {t : TypeId} {cs : List Value} {d : D},S.contains t = true -> Rep P w I k t cs d -> Fits P k t d -> wideD d
 | 0,_,_,_,_,h,_ => h.elim
 | k + 1,t,cs,d,ht,hr,hf => by
   have hc:=List.all_eq_true.1 hS t (List.contains_iff_mem.1 ht)
   unfold Rep at hr
   unfold Fits at hf
   split at hr
   . rename_i hu
     rw [hu] at hf
     obtain ⟨b,rfl⟩:=hf
     trivial
   . rename_i q hu
     rw [hu] at hf hc
     obtain ⟨n,rfl⟩:=hf
     obtain ⟨-,hw⟩:=hr
     cases q <;> simp at hc
     have hw : (Lit.int IntKind.i64 n).wf = true:=hw
     show i64D n
     rw [zC6] at hw
     simp [IntKind.min,IntKind.max,IntKind.signed,IntKind.bits] at hw
     unfold i64D
     omega
   . rename_i hu
     rw [hu] at hf
     obtain ⟨s,rfl⟩:=hf
     trivial
   . rename_i e hu
     rw [hu] at hf hc
     obtain ⟨l,rfl,hfl⟩:=hf
     simp only [Bool.and_eq_true] at hc
     obtain ⟨A,c,-,-,-,-,hi⟩:=hr
     show wideL l
     refine zD0 fun i hl => ?_
     obtain ⟨b,off,-,-,hel⟩:=hi (by show 0 < l.length; omega) (Nat.le_of_ble_eq_true hc.2)
     obtain ⟨ys,-,-,hy⟩:=hel i hl
     exact zG5 hS hc.1 hy (hfl i hl)
   . rename_i fs hu
     rw [hu] at hf hc
     obtain ⟨l,rfl,hl,hfl⟩:=hf
     show wideL l
     refine zD0 fun i hi => ?_
     have hfi : fs[i]? = some (fs[i]'(by omega)):=Array.getElem?_eq_getElem (by omega)
     have hmem:=List.all_eq_true.1 hc (fs[i]'(by omega)) (by simp)
     exact zG5 hS hmem (hr.2 i _ hfi) (hfl i _ hfi)
   . rename_i h1 h2 h3 h4 h5
     exfalso
     split at hc
     . exact h1 ‹_›
     . exact h3 ‹_›
     . exact h2 _ ‹_›
     . exact h4 _ ‹_›
     . exact h5 _ ‹_›
     . cases hc
theorem arg_in {H : Type} {enc : TypeId × Value -> H} {W : World} {v : Value} {base : Nat} {dw : DataW H} {ps : List MemPlace} {t : TypeId} {fs : Array Field} (ht : Tryz.prog.underlying t = some (.struct fs)) (hv : Value.okWide Tryz.prog W .any base t v)
 (hd : DataW.Trod enc Tryz.prog W 0 (fun _ => true) true t v dw ps) :
 ∃ (k : Nat) (cs : Array Value) (d : D),v = .agg cs /\ Rep Tryz.prog W (fun b => b < W.heap.size) k t cs.toList d /\ Fits Tryz.prog k t d /\ bulkD d <= Rows.uptoBulk dw:=by
 obtain ⟨cs,rfl,_⟩:=okWide_struct ht hv
 obtain ⟨k,hk⟩:=hd
 obtain ⟨d,h1,h2,h3⟩:=zCW hk
 exact ⟨k,cs,d,rfl,by simpa [Value.cells] using h1,h2,h3⟩
theorem rep_len {P : Program} {w : World} {I : Nat -> Prop} {k : Nat} {t : TypeId} {cs : List Value} {d : D} {fs : Array Field} (ht : P.underlying t = some (.struct fs)) (h : Rep P w I k t cs d) : cs.length = P.cellsOf t:=by
 cases k with
 | zero => exact h.elim
 | succ k => unfold Rep at h; rw [ht] at h; exact h.1
theorem cells0 {W : World} {k : Nat} {t : TypeId} {cs : Array Value} {d : D} {fs : Array Field} (ht : Tryz.prog.underlying t = some (.struct fs)) (hl : layB Tryz.prog 12 t = true) (hr : Rep Tryz.prog W (fun b => b < W.heap.size) k t cs.toList d) : rel Tryz.prog (sg0 W) W (.agg (cellsV Tryz.prog 12 t d)) (.agg cs):=by
 rw [rel]
 exact ⟨cs,rfl,zDU (s:=sg0 W) 12 k t cs.toList d (RepF.of_rep hr fun b o _ h => h) (rep_len ht hr) hl⟩
theorem zHf {f : FuncId} {args : List V} {W : World} {us : Array Value} (h : AC EN Tryz.prog f args (.c (.bool true))) (hr : relL Tryz.prog (sg0 W) W args us.toList) (he : EnvT W) : Calls Tryz.prog f us W fun e W' => e = .returned (.bool true) /\ Below W.heap.size W W':=by
 refine (h (sg0 W) W us hr (fun b o h => h) he).mono ?_
 rintro e W' ⟨v,F',rfl,hfr,-,-,-,hv⟩
 rw [rel] at hv
 obtain ⟨rfl,-⟩:=hv
 exact ⟨rfl,hfr.below⟩
def laidL9 : List (String × DataW Unit) := [("math/bits.deBruijn32tab", Rows.laid_math_bits_deBruijn32tab), ("math/bits.deBruijn64tab", Rows.laid_math_bits_deBruijn64tab), ("internal/strconv.uint64pow10", Rows.laid_internal_strconv_uint64pow10)]
theorem zGp {W : World} (h : laidMetH Tryz.prog laidL9 W) : EnvT W:=by
 have h' : laidMet Tryz.prog laidL9 W:=h
 obtain ⟨ps,⟨_,_,_,_,_,_,_,_,_,_,⟨_,_,_,_,_,_,_,_,_,_,⟨g3,t3,c3,f3,p3,q3,a3,b3,e3,d3,_⟩,_⟩,_⟩,_⟩:=h'
 exact tab_of_row gPow gPowT Tryz.underlying324 Tryz.underlying273 (by kernel_rfl) (by kernel_rfl) ⟨g3,t3,c3,f3,p3,a3,b3,e3,d3⟩
end Go.Proofs.YthjiclhfhjdjpaaGreatDoor
namespace Go.Proofs.YthjiclhfhjdjpaaGreatDoor
open Go.RowKit
theorem len8 {l : List D} (h : l.length = 8) : l = [gD l 0,gD l 1,gD l 2,gD l 3,gD l 4,gD l 5,gD l 6,gD l 7]:=by
 match l,h with
 | [_,_,_,_,_,_,_,_],_ => rfl
theorem pick_bulk {j : Nat} {p : D} (hf : Fits Tryz.prog j 73 p) :
 11 + (p.f 0).s.size + (p.f 1).s.size + (p.f 2).s.size + bulkL (p.f 3).l + (p.f 5).s.size + bulkL (p.f 7).l <= bulkD p /\ ∃ j2,∀ i,i < (p.f 7).l.length -> Fits Tryz.prog j2 73 (gD (p.f 7).l i):=by
 obtain ⟨j,l,rfl,hl,hfs⟩:=zIZ Tryz.underlying73 hf
 have hl : l.length = 8:=hl
 obtain ⟨s0,e0⟩:=zIY (hfs 0 _ rfl)
 obtain ⟨s1,e1⟩:=zIY (hfs 1 _ rfl)
 obtain ⟨s2,e2⟩:=zIY (hfs 2 _ rfl)
 obtain ⟨j3,l3,e3,-⟩:=zIa Tryz.underlying69 (hfs 3 _ rfl)
 obtain ⟨j4,l4,e4,hl4,-⟩:=zIZ Tryz.underlying71 (hfs 4 _ rfl)
 obtain ⟨s5,e5⟩:=zIY (hfs 5 _ rfl)
 obtain ⟨n6,e6⟩:=fits_i (hfs 6 _ rfl)
 obtain ⟨j7,l7,e7,h7⟩:=zIa Tryz.underlying31 (hfs 7 _ rfl)
 have hl4 : l4.length = 2:=hl4
 have hb4:=zAR l4
 have el : l = [.str s0,.str s1,.str s2,.list l3,.obj l4,.str s5,.int n6,.list l7]:=by rw [len8 hl,e0,e1,e2,e3,e4,e5,e6,e7]
 subst el
 refine ⟨?_,j7,h7⟩
 simp only [bulkD,bulkL]
 show 11 + s0.size + s1.size + s2.size + bulkL l3 + s5.size + bulkL l7 <= _
 omega
theorem field_bulk (sub : ByteArray -> List D -> List D) (p : D) : bulkD (zBu sub p) <= 51 + (p.f 0).s.size + (p.f 2).s.size + bulkL (p.f 3).l + bulkL (sub ((p.f 4).f 0).s (p.f 7).l):=by
 unfold zBu sD31
 have h0 : (if (p.f 0).s.toList == (p.f 2).s.toList then (⟨#[]⟩ : ByteArray) else (p.f 0).s).size <= (p.f 0).s.size:=by
  split
  . exact Nat.zero_le _
  . exact Nat.le_refl _
 have h1 : bulkL (if (p.f 6).n = -1 then [] else [zBU (p.f 6).n]) <= 43:=by
  split
  . simp [bulkL]
  . exact Nat.le_refl 43
 simp only [bulkD,bulkL]
 have h2 : (⟨#[]⟩ : ByteArray).size = 0:=rfl
 omega
theorem inl_bulk (p : D) (fs : List D) : bulkD (inlD p fs) <= 26 + (p.f 1).s.size + 4 * (p.f 5).s.size + bulkL fs:=by
 unfold inlD sD31
 have h1 : bulkL (if (p.f 5).s.toList == [] then [] else [zCa (p.f 5).s]) <= 18 + 4 * (p.f 5).s.size:=by
  split
  . simp [bulkL]
  . rename_i hne
    have hz : (p.f 5).s.size ≠ 0:=fun hz => hne (by
     rw [Lib.toList_data]
     have : (p.f 5).s.data.toList = []:=List.eq_nil_of_length_eq_zero (by simpa using hz)
     rw [this]; rfl)
    have : bulkL [zCa (p.f 5).s] = 21 + (p.f 5).s.size:=by
     unfold zCa dD31 sArg vD31
     simp only [bulkD,bulkL]
     have a1 : (⟨#[100,101,102,101,114]⟩ : ByteArray).size = 5:=rfl
     have a2 : (⟨#[108,97,98,101,108]⟩ : ByteArray).size = 5:=rfl
     omega
    omega
 simp only [bulkD,bulkL]
 have h2 : (⟨#[]⟩ : ByteArray).size = 0:=rfl
 omega
theorem zGw {l : List D} {i : Nat} (h : i < l.length) : bulkL (l.drop i) = bulkD (gD l i) + bulkL (l.drop (i + 1)):=by
 rw [List.drop_eq_getElem_cons h,zAt h]; rfl
section
variable {f : D -> D} {l : List D} (hF : ∀ m,m < l.length -> bulkD (f (gD l m)) + 26 + ((gD l m).f 1).s.size + 4 * ((gD l m).f 5).s.size <= 7 * bulkD (gD l m))
include hF
theorem zIR (p : D) : ∀ (k i : Nat),bulkL (grpI f l p k i) + 7 * bulkL (l.drop (i + (grpI f l p k i).length)) <= 7 * bulkL (l.drop i)
 | 0,i => by simp [grpI,bulkL]
 | k + 1,i => by
   by_cases h : i < l.length /\ zBC p (gD l i) = true
   . rw [zDg h]
     have ih:=zIR p k (i + 1)
     have h1:=hF i h.1
     have h2:=zGw h.1
     rw [List.length_cons,show i + ((grpI f l p k (i + 1)).length + 1) = i + 1 + (grpI f l p k (i + 1)).length by omega]
     simp only [bulkL]
     omega
   . rw [zD8 h]
     simp [bulkL]
theorem zEP (on : ByteArray) : ∀ (j i : Nat),bulkL (selsI f on l j i) <= 7 * bulkL (l.drop i)
 | 0,i => by simp [selsI,bulkL]
 | j + 1,i => by
   by_cases hi : i < l.length
   . have h2:=zGw hi
     have h1:=hF i hi
     cases hp : zBz on (gD l i) with
     | true =>
       rw [zBi hi hp]
       have ih:=zEP on j (i + 1)
       simp only [bulkL]
       omega
     | false =>
       rw [zCS hi hp]
       obtain ⟨n,hn⟩ : ∃ n,l.length = n + 1:=⟨l.length - 1,by omega⟩
       have hg : grpI f l (gD l i) l.length i = f (gD l i) :: grpI f l (gD l i) n (i + 1):=by rw [hn]; exact zDg ⟨hi,zER _⟩
       have hr:=zIR hF (gD l i) n (i + 1)
       have hb:=inl_bulk (gD l i) (grpI f l (gD l i) l.length i)
       have ih:=zEP on j (i + (grpI f l (gD l i) l.length i).length)
       rw [hg] at hb ih |-
       rw [List.length_cons,show i + ((grpI f l (gD l i) n (i + 1)).length + 1) = i + 1 + (grpI f l (gD l i) n (i + 1)).length by omega] at ih |-
       simp only [bulkL] at hb |-
       omega
   . rw [zCT hi]
     simp [bulkL]
end
theorem pk_bulk : ∀ (k : Nat) (on : ByteArray) (l : List D),(∃ j,∀ i,i < l.length -> Fits Tryz.prog j 73 (gD l i)) -> bulkL (pkS k on l) <= 7 * bulkL l
 | 0,_,_,_ => by simp [pkS,bulkL]
 | k + 1,on,l,⟨j,h⟩ => by
   have:=zEP (f:=zBu (pkS k)) (l:=l) (fun m hm => by
    obtain ⟨h1,h2⟩:=pick_bulk (h m hm)
    have h3:=field_bulk (pkS k) (gD l m)
    have ih:=pk_bulk k (((gD l m).f 4).f 0).s ((gD l m).f 7).l h2
    omega) on l.length 0
   rwa [List.drop_zero] at this
theorem wI {n : Int} (h : decide (-9223372036854775808 <= n /\ n <= 9223372036854775807) = true) : wideD (.int n):=by
 have h2 : -9223372036854775808 <= n /\ n <= 9223372036854775807:=of_decide_eq_true h
 exact h2
theorem wideL_all {l : List D} (h : ∀ i,i < l.length -> wideD (gD l i)) : wideL l:=zD0 h
theorem wide_args {d : D} (h : wideD d) : wideL d.l:=wideL_all fun i _ => h.l i
theorem field_wide {sub : ByteArray -> List D -> List D} {p : D} (h : wideD p) (hs : wideL (sub ((p.f 4).f 0).s (p.f 7).l)) : wideD (zBu sub p):=by
 have hn:=(h.f 6).n
 have ha:=wide_args (h.f 3)
 unfold zBu sD31
 refine ⟨wI rfl,trivial,trivial,trivial,ha,?_,hs,trivial⟩
 show wideL _
 split
 . trivial
 . unfold zBU dD31 sArg vD31
   refine ⟨⟨trivial,⟨⟨trivial,⟨wI rfl,wI rfl,trivial,trivial,trivial,trivial⟩,trivial⟩,⟨trivial,⟨wI rfl,hn,trivial,trivial,trivial,trivial⟩,trivial⟩,trivial⟩,trivial⟩,trivial⟩
theorem inl_wide {p : D} {fs : List D} (h : wideL fs) : wideD (inlD p fs):=by
 unfold inlD sD31
 refine ⟨wI rfl,trivial,trivial,trivial,trivial,?_,h,trivial⟩
 show wideL _
 split
 . trivial
 . unfold zCa dD31 sArg vD31
   exact ⟨⟨trivial,⟨⟨trivial,⟨wI rfl,wI rfl,trivial,trivial,trivial,trivial⟩,trivial⟩,trivial⟩,trivial⟩,trivial⟩
theorem zIQ {f : D -> D} {l : List D} (hF : ∀ m,m < l.length -> wideD (f (gD l m))) (p : D) : ∀ (k i : Nat),wideL (grpI f l p k i)
 | 0,_ => trivial
 | k + 1,i => by
   by_cases h : i < l.length /\ zBC p (gD l i) = true
   . rw [zDg h]; exact ⟨hF i h.1,zIQ hF p k (i + 1)⟩
   . rw [zD8 h]; trivial
theorem zEO {f : D -> D} {l : List D} (hF : ∀ m,m < l.length -> wideD (f (gD l m))) (on : ByteArray) : ∀ (j i : Nat),wideL (selsI f on l j i)
 | 0,_ => trivial
 | j + 1,i => by
   by_cases hi : i < l.length
   . cases hp : zBz on (gD l i) with
     | true => rw [zBi hi hp]; exact ⟨hF i hi,zEO hF on j (i + 1)⟩
     | false => rw [zCS hi hp]; exact ⟨inl_wide (zIQ hF _ _ _),zEO hF on j _⟩
   . rw [zCT hi]; trivial
theorem pk_wide : ∀ (k : Nat) (on : ByteArray) (l : List D),(∀ i,wideD (gD l i)) -> wideL (pkS k on l)
 | 0,_,_,_ => trivial
 | k + 1,on,l,h => zEO (f:=zBu (pkS k)) (fun m _ => field_wide (h m) (pk_wide k _ _ fun i => ((h m).f 7).l i)) on l.length 0
theorem zHW {j : Nat} {f : D} {kind : Int} (hp : ∃ j,∀ i,i < (f.f 6).l.length -> Fits Tryz.prog j 73 (gD (f.f 6).l i)) (k : Nat) : bulkL (fetchO k f kind) <= 7 * bulkL (f.f 6).l + 200:=by
 have ho : ∀ q,bulkL (opSels k q (f.f 6).l) <= 7 * bulkL (f.f 6).l + 60:=fun q => by
  unfold opSels
  split
  . have : bulkL [zDa] <= 60:=by decide
    omega
  . have:=pk_bulk k (zCq q) _ hp
    omega
 unfold fetchO
 split
 . have:=ho kind
   unfold zBA
   simp only [bulkD,bulkL]
   have h2 : (⟨#[]⟩ : ByteArray).size = 0:=rfl
   omega
 . have h1:=ho 1
   generalize opSels k 1 (f.f 6).l = S at *
   unfold zBA entS sD31
   have h3 : bulkD zBY <= 40:=by decide
   have h4 : bulkL [sArg ⟨#[114,101,112,114,101,115,101,110,116,97,116,105,111,110,115]⟩ (vD31 7 0 ⟨#[114]⟩)] <= 40:=by decide
   have h5 : (⟨#[95,101,110,116,105,116,105,101,115]⟩ : ByteArray).size = 9:=rfl
   have h2 : (⟨#[]⟩ : ByteArray).size = 0:=rfl
   simp only [bulkD,bulkL] at *
   omega
theorem zC2 {f : D} {kind : Int} (hk : i64D kind) (h : wideD f) (k : Nat) : wideD (.obj [.list (fetchO k f kind),.list []]):=by
 have ho : ∀ q,wideL (opSels k q (f.f 6).l):=fun q => by
  unfold opSels
  split
  . unfold zDa sD31 dD31 sArg vD31
    exact ⟨⟨wI rfl,trivial,trivial,trivial,trivial,⟨⟨trivial,⟨⟨trivial,⟨wI rfl,wI rfl,trivial,trivial,trivial,trivial⟩,trivial⟩,trivial⟩,trivial⟩,trivial⟩,trivial,trivial⟩,trivial⟩
  . exact pk_wide k _ _ fun i => (h.f 6).l i
 refine ⟨?_,trivial,trivial⟩
 show wideL _
 unfold fetchO
 split
 . exact ⟨⟨hk,trivial,trivial,ho kind,trivial⟩,trivial⟩
 . have h1:=ho 1
   generalize opSels k 1 (f.f 6).l = S at *
   unfold zBA entS sD31 zBY anyRef nullV sArg vD31
   exact ⟨⟨wI rfl,trivial,⟨⟨trivial,⟨trivial,⟨wI rfl,wI rfl,wI rfl,trivial⟩,trivial⟩,trivial,⟨wI rfl,wI rfl,trivial,trivial,trivial,trivial⟩,trivial⟩,trivial⟩,⟨⟨wI rfl,trivial,trivial,trivial,⟨⟨trivial,⟨wI rfl,wI rfl,trivial,trivial,trivial,trivial⟩,trivial⟩,trivial⟩,trivial,h1,trivial⟩,trivial⟩,trivial⟩,trivial⟩
end Go.Proofs.YthjiclhfhjdjpaaGreatDoor
namespace Go.Proofs.YthjiclhfhjdjpaaGreatDoor
def ftT : List UInt8:=[102,101,116,99,104,32]
def hd6 (l : List UInt8) : Bool:=l.take 6 == ftT
def cntF : Bool -> List UInt8 -> Nat
 | _,[] => 0
 | b,c :: r => (if b && hd6 (c :: r) then 1 else 0) + cntF (c == 10) r
theorem zF5 : ∀ (u r : List UInt8) (b : Bool),(∀ c ∈ u,c ≠ 10) -> cntF b (u ++ 10 :: r) = (if b && hd6 (u ++ 10 :: r) then 1 else 0) + cntF true r
 | [],r,b,_ => by
   show (if b && hd6 (10 :: r) then 1 else 0) + cntF ((10 : UInt8) == 10) r = _
   rfl
 | c :: u,r,b,h => by
   have hc : (c == 10) = false:=by simpa using h c (by simp)
   have ih:=zF5 u r false fun x hx => h x (by simp [hx])
   show (if b && hd6 (c :: (u ++ 10 :: r)) then 1 else 0) + cntF (c == 10) (u ++ 10 :: r) = _
   rw [hc,ih]
   simp
theorem cnt_fetch (u r : List UInt8) (h : ∀ c ∈ u,c ≠ 10) : cntF true (ftT ++ u ++ 10 :: r) = 1 + cntF true r:=by
 rw [zF5 _ _ _ (by
  intro c hc
  rcases List.mem_append.1 hc with q | q
  . simp only [ftT,List.mem_cons,List.not_mem_nil,or_false] at q
    rcases q with rfl | rfl | rfl | rfl | rfl | rfl <;> decide
  . exact h c q)]
 have : hd6 (ftT ++ u ++ 10 :: r) = true:=by unfold hd6 ftT; simp
 rw [this]
 simp
theorem cnt_in (u r : List UInt8) (h : ∀ c ∈ u,c ≠ 10) : cntF true ([32,32] ++ u ++ 10 :: r) = cntF true r:=by
 rw [zF5 _ _ _ (by
  intro c hc
  rcases List.mem_append.1 hc with q | q
  . simp only [List.mem_cons,List.not_mem_nil,or_false] at q
    rcases q with rfl | rfl <;> decide
  . exact h c q)]
 have : hd6 ([32,32] ++ u ++ 10 :: r) = false:=by unfold hd6 ftT; simp
 rw [this]
 simp
def indG : List UInt8 -> List UInt8 -> List UInt8
 | cur,[] => if cur = [] then [] else [32,32] ++ cur ++ [10]
 | cur,c :: r => if c = 10 then [32,32] ++ cur ++ [10] ++ indG [] r else indG (cur ++ [c]) r
def indT (t : List UInt8) : List UInt8:=indG [] t
theorem zHd : ∀ (t cur r : List UInt8),(∀ c ∈ cur,c ≠ 10) -> cntF true (indG cur t ++ r) = cntF true r
 | [],cur,r,h => by
   unfold indG
   split
   . rfl
   . have:=cnt_in cur r h
     simpa using this
 | c :: t,cur,r,h => by
   unfold indG
   split
   . have h1:=cnt_in cur (indG [] t ++ r) h
     have h2:=zHd t [] r (by simp)
     rw [h2] at h1
     simpa using h1
   . rename_i hc
     exact zHd t (cur ++ [c]) r (by
      intro x hx
      rcases List.mem_append.1 hx with q | q
      . exact h x q
      . simp only [List.mem_cons,List.not_mem_nil,or_false] at q
        rw [q]; exact hc)
theorem zFr : ∀ (t cur : List UInt8),(indG cur t).length <= cur.length + 4 * t.length + 3
 | [],cur => by
   unfold indG
   split
   . simp
   . simp
 | c :: t,cur => by
   unfold indG
   split
   . have:=zFr t []
     simp only [List.length_append,List.length_cons,List.length_nil] at *
     omega
   . have:=zFr t (cur ++ [c])
     simp only [List.length_append,List.length_cons,List.length_nil] at *
     omega
def zB7 (gs : List D) (n : Int) : List UInt8:=if 0 <= n /\ n < (gs.length : Int) then tx (gD gs n.toNat).s else [63]
def zBx (l : List D) : List UInt8:=if l.length = 0 then [] else [44,32,97,102,116,101,114,32] ++ Lib.join (l.map fun d => Lib.itoa d.n) [32]
def hopT (h : D) : List UInt8:=tx (h.f 0).s ++ [46] ++ tx (h.f 1).s
def zEW (f : D) : List UInt8:=
 if (f.f 2).l.length = 0 then [] else [44,32,97,116,32] ++ Lib.join ((f.f 2).l.map hopT) [47] ++ [44,32,102,111,114,32] ++ tx (f.f 3).s ++ [44,32,98,121,32] ++ Lib.join ((f.f 4).l.map fun d => tx d.s) [32]
def restT (gs : List D) (i : Int) (f : D) : List UInt8:=
 Lib.itoa i ++ [58,32] ++ zB7 gs (f.f 0).n ++ [44,32,100,101,112,116,104,32] ++ Lib.itoa (f.f 1).n ++ zBx (f.f 7).l ++ zEW f
def zC1 (gs : List D) (i : Int) (f : D) : List UInt8:=ftT ++ restT gs i f ++ [10]
def showT (gs : List D) (doc : D -> List UInt8) : List D -> Nat -> List UInt8
 | [],_ => []
 | f :: r,i => zC1 gs i f ++ indT (doc f) ++ showT gs doc r (i + 1)
theorem dec_no (u : Nat) : ∀ c ∈ Lib.decDigits u,c ≠ 10:=by
 have h10 : ∀ n,n < 10 -> UInt8.ofNat (48 + n) ≠ 10:=by decide
 induction u using Nat.strongRecOn with
 | _ u ih =>
   intro c hc
   unfold Lib.decDigits at hc
   split at hc
   . rename_i h
     simp only [List.mem_cons,List.not_mem_nil,or_false] at hc
     rw [hc]
     exact h10 u h
   . rcases List.mem_append.1 hc with q | q
     . exact ih (u / 10) (by omega) c q
     . simp only [List.mem_cons,List.not_mem_nil,or_false] at q
       rw [q]
       exact h10 (u % 10) (by omega)
theorem zHP (n : Int) : ∀ c ∈ Lib.itoa n,c ≠ 10:=by
 unfold Lib.itoa
 split
 . intro c hc
   rcases List.mem_cons.1 hc with rfl | q
   . decide
   . exact dec_no _ c q
 . exact dec_no _
theorem zEZ {s : ByteArray} (h : nameB s = true) : ∀ c ∈ tx s,c ≠ 10:=by
 have h':=of_decide_eq_true h
 intro c hc e
 subst e
 obtain ⟨i,hi,hx⟩:=List.getElem_of_mem hc
 have hb:=h'.2.2.2 i (by rw [<- zAP]; exact hi)
 have hv : bV s i = 10:=by
  unfold bV
  have : s.data.toList.getD i 0 = 10:=by
   rw [List.getD_eq_getElem?_getD]
   show ((tx s)[i]?).getD 0 = 10
   rw [List.getElem?_eq_getElem hi,hx]
   rfl
  rw [this]
  rfl
 rw [hv] at hb
 simp [letB,digB] at hb
theorem zHN (sep : List UInt8) (hs : ∀ c ∈ sep,c ≠ 10) : ∀ (ls : List (List UInt8)),(∀ l ∈ ls,∀ c ∈ l,c ≠ 10) -> ∀ c ∈ Lib.join ls sep,c ≠ 10
 | [],_ => by simp [Lib.join_nil]
 | x :: r,h => by
   intro c hc
   rw [Lib.join_cons] at hc
   rcases List.mem_append.1 hc with q | q
   . exact h x (by simp) c q
   . unfold Lib.joinTail at q
     obtain ⟨y,hy,hcy⟩:=List.mem_flatten.1 q
     obtain ⟨z,hz,rfl⟩:=List.mem_map.1 hy
     rcases List.mem_append.1 hcy with q2 | q2
     . exact hs c q2
     . exact h z (by simp [hz]) c q2
def NamedF (gs : List D) (f : D) : Prop:=
 (∀ i,i < gs.length -> nameB (gD gs i).s = true) /\ (∀ i,i < (f.f 4).l.length -> nameB (gD (f.f 4).l i).s = true) /\ (∀ i,i < (f.f 2).l.length -> nameB ((gD (f.f 2).l i).f 0).s = true /\ nameB ((gD (f.f 2).l i).f 1).s = true) /\ nameB (f.f 3).s = true
theorem zFu {l : List D} {p : D -> Prop} (h : ∀ i,i < l.length -> p (gD l i)) : ∀ d ∈ l,p d:=by
 intro d hd
 obtain ⟨i,hi,rfl⟩:=List.getElem_of_mem hd
 rw [<- zAt hi]
 exact h i hi
theorem zBv {a b : List UInt8} (ha : ∀ c ∈ a,c ≠ 10) (hb : ∀ c ∈ b,c ≠ 10) : ∀ c ∈ a ++ b,c ≠ 10:=fun c hc => by
 rcases List.mem_append.1 hc with q | q
 . exact ha c q
 . exact hb c q
theorem rest_no {gs : List D} {i : Int} {f : D} (h : NamedF gs f) : ∀ c ∈ restT gs i f,c ≠ 10:=by
 obtain ⟨h1,h2,h3,h4⟩:=h
 unfold restT
 refine zBv (zBv (zBv (zBv (zBv (zBv (zHP _) (by decide)) ?_) (by decide)) (zHP _)) ?_) ?_
 . unfold zB7
   split
   . exact zEZ (h1 _ (by omega))
   . decide
 . unfold zBx
   split
   . simp
   . refine zBv (by decide) (zHN _ (by decide) _ ?_)
     intro l hl
     obtain ⟨d,-,rfl⟩:=List.mem_map.1 hl
     exact zHP _
 . unfold zEW
   split
   . simp
   . refine zBv (zBv (zBv (zBv (zBv (by decide) (zHN _ (by decide) _ ?_)) (by decide)) (zEZ h4)) (by decide)) (zHN _ (by decide) _ ?_)
     . intro l hl
       obtain ⟨d,hd,rfl⟩:=List.mem_map.1 hl
       have:=zFu (p:=fun d => nameB (d.f 0).s = true /\ nameB (d.f 1).s = true) h3 d hd
       exact zBv (zBv (zEZ this.1) (by decide)) (zEZ this.2)
     . intro l hl
       obtain ⟨d,hd,rfl⟩:=List.mem_map.1 hl
       exact zEZ (zFu (p:=fun d => nameB d.s = true) h2 d hd)
theorem zIo (gs : List D) (doc : D -> List UInt8) : ∀ (fs : List D) (i : Nat),(∀ f ∈ fs,NamedF gs f) -> cntF true (showT gs doc fs i) = fs.length
 | [],_,_ => rfl
 | f :: r,i,h => by
   have h1:=cnt_fetch (restT gs i f) (indT (doc f) ++ showT gs doc r (i + 1)) (rest_no (h f (by simp)))
   have h2:=zHd (doc f) [] (showT gs doc r (i + 1)) (by simp)
   have h3:=zIo gs doc r (i + 1) fun x hx => h x (by simp [hx])
   have e : showT gs doc (f :: r) i = ftT ++ restT gs i f ++ 10 :: (indT (doc f) ++ showT gs doc r (i + 1)):=by
    show zC1 gs i f ++ indT (doc f) ++ showT gs doc r (i + 1) = _
    unfold zC1
    simp
   rw [e,h1]
   unfold indT
   rw [h2,h3,List.length_cons]
   omega
end Go.Proofs.YthjiclhfhjdjpaaGreatDoor
