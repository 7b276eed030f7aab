import Derived.Test.YtdlnnlglmifceaaDoorQ31
set_option maxHeartbeats 8000000
set_option maxRecDepth 100000
set_option linter.unusedVariables false
set_option linter.unusedSimpArgs false
namespace Go.Proofs.YtdlnnlglmifceaaDoor
open Go.RowKit
set_option linter.unusedSectionVars false
def K6 : Nat:=1048576
theorem strsJ_at (f : Nat -> List UInt8) {n i : Nat} (h : i < n) : (gD (zAS f n) i).s = bs (f i):=by
 unfold zAS gD
 rw [List.getD_eq_getElem?_getD,List.getElem?_map,List.getElem?_range h]; rfl
theorem zCR (f : Nat -> List UInt8) {n i : Nat} (h : i < n) : (gD (zAS f n) ((i : Int)).toNat).s = bs (f i):=strsJ_at f h
attribute [local irreducible] wpList Calls Code.wp AW AWo OpOk seqK zAf zAj loopK endK AC zAH Yld Sub
attribute [local irreducible] ACB ACX YldG absLexH
theorem zDw {l : List D} (h : DirsOk K6 l) : AC EN Tryd.prog 45 [.sl 64 l] (.c (.string (bs (zAr K6 l)))):=by
 have hd:=dirsP_ac K6 l h
 have hds:=zEd K6 l h.wide
 have hbk:=h.bulk
 by_cases h0 : l.length = 0
 . have f0 : ((l.length : Int) == 0) = true:=by rw [h0]; rfl
   have e : zAr K6 l = []:=by unfold zAr; rw [if_pos h0]
   rw [e]
   refine zV 9 Tryd.func45 rfl rfl rfl rfl ?_
   intro s w he
   repeat' (first
|apply zG
 . conv => lhs; whnf
 . assumption
|apply zF
 . conv => lhs; whnf
 . assumption
|refine ze ?_
|refine zY ?_
|refine zAP ?_
|refine zA ?_
|refine zI ?_
|refine zZ ?_
|refine zW ?_
|refine zi ?_
|apply aw_1
 conv => whnf
 refine ⟨?_,trivial⟩
|apply s_1
 conv => whnf; arg 1; arg 4; arg 3; whnf
 refine ⟨?_,?_⟩
|apply zAF rfl
 . conv => lhs; whnf
 . conv => lhs; whnf; arg 2; whnf
|apply zk rfl
 . conv => lhs; whnf
 . conv => lhs; whnf
 . first | exact hd
|apply zS
 . conv => lhs; whnf; arg 1; arg 1; whnf
|apply zU
 . conv => lhs; whnf; arg 1; arg 1; whnf
|refine zd (by conv => lhs; whnf) ?_ ?_ <;> intro hb
|refine zv ?_
|refine zh ?_
|refine zJ ?_
|refine zK ?_
|refine zH ?_
|refine zE rfl ?_
|refine zM rfl ?_
|refine zL ?_
|refine zO ?_
|refine zC ?_
|refine zN ?_
|refine zAG ?_
|refine zB ?_
|refine ⟨_,by conv => lhs; whnf; arg 2; whnf,?_⟩; conv => rhs; whnf
|exact trivial
|intro hg)
   all_goals rfl
 . have f0 : ((l.length : Int) == 0) = false:=by rw [beq_eq_false_iff_ne]; omega
   have e : zAr K6 l = [32] ++ zHY K6 l:=by unfold zAr; rw [if_neg h0]
   rw [e]
   refine zV 9 Tryd.func45 rfl rfl rfl rfl ?_
   intro s w he
   repeat' (first
|apply zG
 . conv => lhs; whnf
 . assumption
|apply zF
 . conv => lhs; whnf
 . assumption
|refine ze ?_
|refine zY ?_
|refine zAP ?_
|refine zA ?_
|refine zI ?_
|refine zZ ?_
|refine zW ?_
|refine zi ?_
|apply aw_1
 conv => whnf
 refine ⟨?_,trivial⟩
|apply s_1
 conv => whnf; arg 1; arg 4; arg 3; whnf
 refine ⟨?_,?_⟩
|apply zAF rfl
 . conv => lhs; whnf
 . conv => lhs; whnf; arg 2; whnf
|apply zk rfl
 . conv => lhs; whnf
 . conv => lhs; whnf
 . first | exact hd
|apply zS
 . conv => lhs; whnf; arg 1; arg 1; whnf
|apply zU
 . conv => lhs; whnf; arg 1; arg 1; whnf
|refine zd (by conv => lhs; whnf) ?_ ?_ <;> intro hb
|refine zv ?_
|refine zh ?_
|refine zJ ?_
|refine zK ?_
|refine zH ?_
|refine zE rfl ?_
|refine zM rfl ?_
|refine zL ?_
|refine zO ?_
|refine zC ?_
|refine zN ?_
|refine zAG ?_
|refine zB ?_
|refine ⟨_,by conv => lhs; whnf; arg 2; whnf,?_⟩; conv => rhs; whnf
|exact trivial
|intro hg)
   all_goals first
    | (refine zAi ?_; simp only [zAT,zBB,zAh]; done)
    | (simp only [ByteArray.size_append,zAM,zAI,List.size_toArray,List.length_append,List.length_cons,List.length_nil,maxLen,Int.toNat_natCast,Nat.zero_add,Nat.reduceAdd]; omega)
    | skip
theorem dok6 {l : List D} (h : DirsP l) (hw : ∀ i,wideD (gD l i)) (hb : bulkL l <= 1048576) : DirsOk K6 l:=zGs (Nat.le_refl _) (zF6 h) hw hb
theorem zGi {x : D} (h : InP x) (hw : wideD x) (hb : bulkD x <= 1048576) : AC EN Tryd.prog 47 [.agg (cellsV Tryd.prog 12 76 x)] (.c (.string (bs (inB6 K6 x)))):=by
 have w:=zy x
 have wf:=zAd x 5
 simp only [sumN] at wf
 have b0:=zAv (x.f 0)
 have b1:=zAd (x.f 1) 2
 simp only [sumN] at b1
 have b10:=zAv ((x.f 1).f 0); have t10:=zBL ((x.f 1).f 0).s
 have b11:=zAE ((x.f 1).f 1); have l11:=zAe ((x.f 1).f 1).l
 have b3:=zy (x.f 3)
 have b4:=zAE (x.f 4)
 have h1:=refP_ac (tx ((x.f 1).f 0).s) ((x.f 1).f 1).l (by omega) (by omega)
 rw [zDf] at h1
 have z1:=zDx (tx ((x.f 1).f 0).s) ((x.f 1).f 1).l
 have h2:=zC0 K6 (x.f 3) (zBS K6 _ (by unfold K6; omega)) (hw.f 3) (zH4 h.val.lit) (by omega)
 have z2:=zBT K6 (x.f 3) (hw.f 3)
 have h3:=zDw (dok6 h.dirs (hw.f 4).l (by omega))
 have z3:=zA8 K6 (x.f 4).l (hw.f 4).l
 cases hB : (x.f 2).b with
 | true =>
   have e : inB6 K6 x = tx (x.f 0).s ++ [58,32] ++ refB (tx ((x.f 1).f 0).s) ((x.f 1).f 1).l ++ ([32,61,32] ++ valT K6 (x.f 3)) ++ zAr K6 (x.f 4).l:=by unfold inB6; rw [if_pos hB]
   rw [e]
   refine zV 24 Tryd.func47 rfl rfl rfl rfl ?_
   intro s w he
   repeat' (first
|apply zG
 . conv => lhs; whnf
 . assumption
|apply zF
 . conv => lhs; whnf
 . assumption
|refine ze ?_
|refine zY ?_
|refine zAP ?_
|refine zA ?_
|refine zI ?_
|refine zZ ?_
|refine zW ?_
|refine zi ?_
|apply aw_1
 conv => whnf
 refine ⟨?_,trivial⟩
|apply s_1
 conv => whnf; arg 1; arg 4; arg 3; whnf
 refine ⟨?_,?_⟩
|apply zAF rfl
 . conv => lhs; whnf
 . conv => lhs; whnf; arg 2; whnf
|apply zk rfl
 . conv => lhs; whnf
 . conv => lhs; whnf
 . first | exact h1 | exact h2 | exact h3
|apply zAO rfl rfl rfl rfl
 . conv => lhs; whnf; arg 1; whnf
 . rfl
|apply zq (by kernel_rfl) (by kernel_rfl)
|apply zAR
|apply zAQ rfl
 . conv => lhs; whnf
 . conv => lhs; whnf; arg 2; whnf
|apply zAU rfl
 . conv => lhs; whnf
 . conv => lhs; whnf
 . first | exact h1 | exact h2 | exact h3
|exact zR
|exact zX
|exact all_nil
|show List.all _ _ = true; rfl
|show zAC _ _ = true; rfl
|exact ([] : List Nat)
|exact (1000000 : Nat)
|apply zS
 . conv => lhs; whnf; arg 1; arg 1; whnf
|apply zU
 . conv => lhs; whnf; arg 1; arg 1; whnf
|refine zd (by conv => lhs; whnf) ?_ ?_ <;> intro hb
|refine zv ?_
|refine zh ?_
|refine zJ ?_
|refine zK ?_
|refine zH ?_
|refine zE rfl ?_
|refine zM rfl ?_
|refine zL ?_
|refine zO ?_
|refine zC ?_
|refine zN ?_
|refine zAG ?_
|refine zB ?_
|refine ⟨_,by conv => lhs; whnf; arg 2; whnf,?_⟩; conv => rhs; whnf
|exact trivial
|intro hg)
   all_goals first
    | (refine zAi ?_; simp only [zAT,zBB,zAh,List.append_assoc]; done)
    | (simp only [ByteArray.size_append,zAM,zAI,List.size_toArray,List.length_append,List.length_cons,List.length_nil,maxLen,Int.toNat_natCast,Nat.zero_add,Nat.reduceAdd]; omega)
    | skip
 | false =>
   have e : inB6 K6 x = tx (x.f 0).s ++ [58,32] ++ refB (tx ((x.f 1).f 0).s) ((x.f 1).f 1).l ++ zAr K6 (x.f 4).l:=by unfold inB6; rw [if_neg (by rw [hB]; decide),List.append_nil]
   rw [e]
   refine zV 24 Tryd.func47 rfl rfl rfl rfl ?_
   intro s w he
   repeat' (first
|apply zG
 . conv => lhs; whnf
 . assumption
|apply zF
 . conv => lhs; whnf
 . assumption
|refine ze ?_
|refine zY ?_
|refine zAP ?_
|refine zA ?_
|refine zI ?_
|refine zZ ?_
|refine zW ?_
|refine zi ?_
|apply aw_1
 conv => whnf
 refine ⟨?_,trivial⟩
|apply s_1
 conv => whnf; arg 1; arg 4; arg 3; whnf
 refine ⟨?_,?_⟩
|apply zAF rfl
 . conv => lhs; whnf
 . conv => lhs; whnf; arg 2; whnf
|apply zk rfl
 . conv => lhs; whnf
 . conv => lhs; whnf
 . first | exact h1 | exact h2 | exact h3
|apply zAO rfl rfl rfl rfl
 . conv => lhs; whnf; arg 1; whnf
 . rfl
|apply zq (by kernel_rfl) (by kernel_rfl)
|apply zAR
|apply zAQ rfl
 . conv => lhs; whnf
 . conv => lhs; whnf; arg 2; whnf
|apply zAU rfl
 . conv => lhs; whnf
 . conv => lhs; whnf
 . first | exact h1 | exact h2 | exact h3
|exact zR
|exact zX
|exact all_nil
|show List.all _ _ = true; rfl
|show zAC _ _ = true; rfl
|exact ([] : List Nat)
|exact (1000000 : Nat)
|apply zS
 . conv => lhs; whnf; arg 1; arg 1; whnf
|apply zU
 . conv => lhs; whnf; arg 1; arg 1; whnf
|refine zd (by conv => lhs; whnf) ?_ ?_ <;> intro hb
|refine zv ?_
|refine zh ?_
|refine zJ ?_
|refine zK ?_
|refine zH ?_
|refine zE rfl ?_
|refine zM rfl ?_
|refine zL ?_
|refine zO ?_
|refine zC ?_
|refine zN ?_
|refine zAG ?_
|refine zB ?_
|refine ⟨_,by conv => lhs; whnf; arg 2; whnf,?_⟩; conv => rhs; whnf
|exact trivial
|intro hg)
   all_goals first
    | (refine zAi ?_; simp only [zAT,zBB,zAh,List.append_assoc]; done)
    | (simp only [ByteArray.size_append,zAM,zAI,List.size_toArray,List.length_append,List.length_cons,List.length_nil,maxLen,Int.toNat_natCast,Nat.zero_add,Nat.reduceAdd]; omega)
    | skip
noncomputable def HfP6 (x : D) (i : Nat) : Vst 41:=stS 41 [(1,.bx 1 0),(3,.c (.string (x.f 0).s)),(4,.own 4 9 (zAS (fun i => inB6 K6 (gD (x.f 1).l i)) i)),(10,.sl 76 (x.f 1).l),(11,.c (.int .i64 ((x.f 1).l.length : Nat))),(12,.c (.int .i64 (i : Int)))] [(1,.box 40 (cellsV Tryd.prog 12 40 x)),(4,.tok 9 (zAS (fun i => inB6 K6 (gD (x.f 1).l i)) i).length)]
theorem zEZ {x : D} (h : FdP x) (hw : wideD x) (hb : bulkD x <= 1048576) : AC EN Tryd.prog 46 [.agg (cellsV Tryd.prog 12 40 x)] (.c (.string (bs (fdT6 K6 x)))):=by
 have w:=zy x
 have wf:=zAd x 4
 simp only [sumN] at wf
 have b0:=zAv (x.f 0)
 have b1:=zAE (x.f 1); have l1:=zAe (x.f 1).l
 have b2:=zAd (x.f 2) 2
 simp only [sumN] at b2
 have b20:=zAv ((x.f 2).f 0); have t20:=zBL ((x.f 2).f 0).s
 have b21:=zAE ((x.f 2).f 1); have l21:=zAe ((x.f 2).f 1).l
 have b3:=zAE (x.f 3)
 have h1:=refP_ac (tx ((x.f 2).f 0).s) ((x.f 2).f 1).l (by omega) (by omega)
 rw [zDf] at h1
 have z1:=zDx (tx ((x.f 2).f 0).s) ((x.f 2).f 1).l
 have h3:=zDw (dok6 h.dirs (hw.f 3).l (by omega))
 have z3:=zA8 K6 (x.f 3).l (hw.f 3).l
 have z2:=zGh K6 (x.f 1).l (hw.f 1).l
 have hj:=zCX (zAS (fun i => inB6 K6 (gD (x.f 1).l i)) (x.f 1).l.length) [44,32] (by rw [zAc]; omega) (by rw [zAx]; exact Nat.le_trans z2 (by omega))
 rw [zAx] at hj
 have hj : AC EN Tryd.prog 23 [.sl 9 (zAS (fun i => inB6 K6 (gD (x.f 1).l i)) (x.f 1).l.length),.c (.string (bs [44,32]))] (.c (.string (bs (zHM K6 (x.f 1).l)))):=hj
 refine zV 41 Tryd.func46 rfl rfl rfl rfl ?_
 intro s w he
 repeat' (first
|apply zG
 . conv => lhs; whnf
 . assumption
|apply zF
 . conv => lhs; whnf
 . assumption
|refine ze ?_
|refine zY ?_
|refine zAP ?_
|refine zA ?_
|refine zI ?_
|refine zZ ?_
|refine zW ?_
|refine zi ?_
|apply aw_1
 conv => whnf
 refine ⟨?_,trivial⟩
|apply s_1
 conv => whnf; arg 1; arg 4; arg 3; whnf
 refine ⟨?_,?_⟩
|apply zAF rfl
 . conv => lhs; whnf
 . conv => lhs; whnf; arg 2; whnf
|apply zk rfl
 . conv => lhs; whnf
 . conv => lhs; whnf
 . first | fail
|apply zAO rfl rfl rfl rfl
 . conv => lhs; whnf; arg 1; whnf
 . rfl
|apply zAV rfl rfl rfl rfl
 . conv => lhs; whnf; arg 1; whnf
 . rfl
|apply z8 rfl rfl rfl
 . conv => lhs; whnf
 . conv => lhs; whnf; arg 1; whnf
 . conv => lhs; whnf; arg 1; whnf
 . exact ⟨by kernel_rfl,by kernel_rfl⟩
 . rfl
|apply zCM rfl rfl
 . conv => lhs; whnf
 . first | (conv => lhs; whnf; arg 1; whnf)
 . first | exact fun _ => rfl | (intro _; kernel_rfl)
 . conv => lhs; whnf
 . conv => lhs; whnf; arg 1; whnf
 . conv => lhs; whnf
|apply zAu rfl rfl rfl rfl
 . first | (conv => lhs; whnf; arg 1; whnf)
 . first | exact fun _ => rfl | (intro _; kernel_rfl)
 . conv => lhs; whnf
 . conv => lhs; whnf
|apply zBu rfl rfl
 . conv => lhs; whnf
 . first | (conv => lhs; whnf; arg 1; whnf)
|apply zBC rfl rfl
 . conv => lhs; whnf
 . first | (conv => lhs; whnf; arg 1; whnf)
 . conv => lhs; whnf; arg 1; whnf
 . rfl
 . rfl
|apply zBO rfl rfl
 . conv => lhs; whnf
 . first | (conv => lhs; whnf; arg 1; whnf)
 . first | exact fun _ => rfl | (intro _; kernel_rfl)
 . conv => lhs; whnf
 . conv => lhs; whnf
|apply zq (by kernel_rfl) (by kernel_rfl)
|apply zAR
|apply zAQ rfl
 . conv => lhs; whnf
 . conv => lhs; whnf; arg 2; whnf
|apply zAU rfl
 . conv => lhs; whnf
 . conv => lhs; whnf
 . first | fail
|apply zAl rfl rfl rfl
 . conv => lhs; whnf
 . rfl
 . rfl
 . conv => lhs; whnf; arg 1; whnf
 . conv => lhs; whnf; arg 1; whnf
 . exact ⟨by kernel_rfl,by kernel_rfl⟩
 . rfl
|apply zD4 rfl rfl
 . conv => lhs; whnf
 . first | (conv => lhs; whnf; arg 1; whnf)
 . first | exact fun _ => rfl | (intro _; kernel_rfl)
 . conv => lhs; whnf
 . rfl
 . rfl
 . conv => lhs; whnf; arg 1; whnf
 . conv => lhs; whnf
|apply zCl rfl rfl
 . conv => lhs; whnf
 . first | (conv => lhs; whnf; arg 1; whnf)
|apply zCO rfl rfl
 . conv => lhs; whnf
 . first | (conv => lhs; whnf; arg 1; whnf)
 . conv => lhs; whnf; arg 1; whnf
 . rfl
 . rfl
|apply zB1 rfl rfl
 . conv => lhs; whnf
 . first | (conv => lhs; whnf; arg 1; whnf)
 . first | exact fun _ => rfl | (intro _; kernel_rfl)
 . conv => lhs; whnf
 . conv => lhs; whnf
|exact zR
|exact zX
|exact all_nil
|show List.all _ _ = true; rfl
|show zAC _ _ = true; rfl
|exact ([] : List Nat)
|exact (1000000 : Nat)
|apply zS
 . conv => lhs; whnf; arg 1; arg 1; whnf
|apply zU
 . conv => lhs; whnf; arg 1; arg 1; whnf
|refine zd (by conv => lhs; whnf) ?_ ?_ <;> intro hb
|refine zv ?_
|refine zh ?_
|refine zJ ?_
|refine zK ?_
|refine zH ?_
|refine zE rfl ?_
|refine zM rfl ?_
|refine zL ?_
|refine zO ?_
|refine zC ?_
|refine zN ?_
|refine zAG ?_
|refine zB ?_
|refine ⟨_,by conv => lhs; whnf; arg 2; whnf,?_⟩; conv => rhs; whnf
|exact trivial
|intro hg)
 refine zAA (Sub.own (t:=4) (e:=9) rfl rfl) ?_
 refine z7 (fun j st => ∃ i,i + j = (x.f 1).l.length /\ Sub (cx EN Tryd.prog s w he) st (HfP6 x i)) (x.f 1).l.length ⟨0,by omega,Sub.live ⟨rfl,rfl,rfl,rfl,rfl,rfl,trivial⟩ ⟨rfl,rfl,trivial⟩⟩ ?_
 rintro j st ⟨i,hij,hs2⟩
 refine zAA hs2 ?_
 clear hs2
 have htk:=zAc (fun i => inB6 K6 (gD (x.f 1).l i)) i
 by_cases hi : i < (x.f 1).l.length
 . have f1 : decide ((i : Int) < ((x.f 1).l.length : Nat)) = true:=decide_eq_true (by omega)
   have hbg:=zAa hi
   have hk:=zGi (h.args.ins i hi) ((hw.f 1).l i) (by omega)
   repeat' (first
|apply zG
 . conv => lhs; whnf
 . assumption
|apply zF
 . conv => lhs; whnf
 . assumption
|refine ze ?_
|refine zY ?_
|refine zAP ?_
|refine zA ?_
|refine zI ?_
|refine zZ ?_
|refine zW ?_
|refine zi ?_
|apply aw_1
 conv => whnf
 refine ⟨?_,trivial⟩
|apply s_1
 conv => whnf; arg 1; arg 4; arg 3; whnf
 refine ⟨?_,?_⟩
|apply zAF rfl
 . conv => lhs; whnf
 . conv => lhs; whnf; arg 2; whnf
|apply zk rfl
 . conv => lhs; whnf
 . conv => lhs; whnf
 . first | exact hk
|apply zAO rfl rfl rfl rfl
 . conv => lhs; whnf; arg 1; whnf
 . rfl
|apply zAV rfl rfl rfl rfl
 . conv => lhs; whnf; arg 1; whnf
 . rfl
|apply z8 rfl rfl rfl
 . conv => lhs; whnf
 . conv => lhs; whnf; arg 1; whnf
 . conv => lhs; whnf; arg 1; whnf
 . exact ⟨by kernel_rfl,by kernel_rfl⟩
 . rfl
|apply zCM rfl rfl
 . conv => lhs; whnf
 . first | exact zo | (conv => lhs; whnf; arg 1; whnf)
 . first | exact fun _ => rfl | (intro _; kernel_rfl)
 . conv => lhs; whnf
 . conv => lhs; whnf; arg 1; whnf
 . conv => lhs; whnf
|apply zAu rfl rfl rfl rfl
 . first | exact zo | (conv => lhs; whnf; arg 1; whnf)
 . first | exact fun _ => rfl | (intro _; kernel_rfl)
 . conv => lhs; whnf
 . conv => lhs; whnf
|apply zBu rfl rfl
 . conv => lhs; whnf
 . first | exact zo | (conv => lhs; whnf; arg 1; whnf)
|apply zBC rfl rfl
 . conv => lhs; whnf
 . first | exact zo | (conv => lhs; whnf; arg 1; whnf)
 . conv => lhs; whnf; arg 1; whnf
 . rfl
 . rfl
|apply zBO rfl rfl
 . conv => lhs; whnf
 . first | exact zo | (conv => lhs; whnf; arg 1; whnf)
 . first | exact fun _ => rfl | (intro _; kernel_rfl)
 . conv => lhs; whnf
 . conv => lhs; whnf
|apply zq (by kernel_rfl) (by kernel_rfl)
|apply zAR
|apply zAQ rfl
 . conv => lhs; whnf
 . conv => lhs; whnf; arg 2; whnf
|apply zAU rfl
 . conv => lhs; whnf
 . conv => lhs; whnf
 . first | exact hk
|apply zAl rfl rfl rfl
 . conv => lhs; whnf
 . rfl
 . rfl
 . conv => lhs; whnf; arg 1; whnf
 . conv => lhs; whnf; arg 1; whnf
 . exact ⟨by kernel_rfl,by kernel_rfl⟩
 . rfl
|apply zD4 rfl rfl
 . conv => lhs; whnf
 . first | exact zo | (conv => lhs; whnf; arg 1; whnf)
 . first | exact fun _ => rfl | (intro _; kernel_rfl)
 . conv => lhs; whnf
 . rfl
 . rfl
 . conv => lhs; whnf; arg 1; whnf
 . conv => lhs; whnf
|apply zCl rfl rfl
 . conv => lhs; whnf
 . first | exact zo | (conv => lhs; whnf; arg 1; whnf)
|apply zCO rfl rfl
 . conv => lhs; whnf
 . first | exact zo | (conv => lhs; whnf; arg 1; whnf)
 . conv => lhs; whnf; arg 1; whnf
 . rfl
 . rfl
|apply zB1 rfl rfl
 . conv => lhs; whnf
 . first | exact zo | (conv => lhs; whnf; arg 1; whnf)
 . first | exact fun _ => rfl | (intro _; kernel_rfl)
 . conv => lhs; whnf
 . conv => lhs; whnf
|exact zR
|exact zX
|exact all_nil
|show List.all _ _ = true; rfl
|show zAC _ _ = true; rfl
|exact ([] : List Nat)
|exact (1000000 : Nat)
|apply zS
 . conv => lhs; whnf; arg 1; arg 1; whnf
|apply zU
 . conv => lhs; whnf; arg 1; arg 1; whnf
|refine zd (by conv => lhs; whnf) ?_ ?_ <;> intro hb
|refine zv ?_
|refine zh ?_
|refine zJ ?_
|refine zK ?_
|refine zH ?_
|refine zE rfl ?_
|refine zM rfl ?_
|refine zL ?_
|refine zO ?_
|refine zC ?_
|refine zN ?_
|refine zAG ?_
|refine zB ?_
|refine ⟨_,by conv => lhs; whnf; arg 2; whnf,?_⟩; conv => rhs; whnf
|exact trivial
|intro hg)
   all_goals first
    | exact zu (by omega)
    | exact zx hi
    | exact zCA (by omega) (by omega)
    | (refine za (j':=j - 1) (by omega) ⟨i + 1,by omega,Sub.live ⟨rfl,rfl,?_,rfl,rfl,rfl,trivial⟩ ⟨rfl,?_,trivial⟩⟩
       . show V.own 4 _ (zAS _ i ++ [.str (bs (inB6 K6 (gD (x.f 1).l i)))]) = _
         rw [zAN]
       . show some (Res.tok _ ((zAS _ i).length + 1)) = _
         rw [zAN,List.length_append]; rfl)
    | skip
 . have f1 : decide ((i : Int) < ((x.f 1).l.length : Nat)) = false:=decide_eq_false (by omega)
   have ei : i = (x.f 1).l.length:=by omega
   subst ei
   by_cases h0 : (x.f 1).l.length = 0
   . have g1 : decide (((zAS (fun i => inB6 K6 (gD (x.f 1).l i)) (x.f 1).l.length).length : Int) > 0) = false:=decide_eq_false (by omega)
     have e : fdT6 K6 x = tx (x.f 0).s ++ [58,32] ++ refB (tx ((x.f 2).f 0).s) ((x.f 2).f 1).l ++ zAr K6 (x.f 3).l:=by unfold fdT6; rw [if_pos h0,List.append_nil]
     rw [e]
     repeat' (first
|apply zG
 . conv => lhs; whnf
 . assumption
|apply zF
 . conv => lhs; whnf
 . assumption
|refine ze ?_
|refine zY ?_
|refine zAP ?_
|refine zA ?_
|refine zI ?_
|refine zZ ?_
|refine zW ?_
|refine zi ?_
|apply aw_1
 conv => whnf
 refine ⟨?_,trivial⟩
|apply s_1
 conv => whnf; arg 1; arg 4; arg 3; whnf
 refine ⟨?_,?_⟩
|apply zAF rfl
 . conv => lhs; whnf
 . conv => lhs; whnf; arg 2; whnf
|apply zk rfl
 . conv => lhs; whnf
 . conv => lhs; whnf
 . first | exact hj | exact h1 | exact h3
|apply zAO rfl rfl rfl rfl
 . conv => lhs; whnf; arg 1; whnf
 . rfl
|apply zAV rfl rfl rfl rfl
 . conv => lhs; whnf; arg 1; whnf
 . rfl
|apply z8 rfl rfl rfl
 . conv => lhs; whnf
 . conv => lhs; whnf; arg 1; whnf
 . conv => lhs; whnf; arg 1; whnf
 . exact ⟨by kernel_rfl,by kernel_rfl⟩
 . rfl
|apply zCM rfl rfl
 . conv => lhs; whnf
 . first | exact zo | (conv => lhs; whnf; arg 1; whnf)
 . first | exact fun _ => rfl | (intro _; kernel_rfl)
 . conv => lhs; whnf
 . conv => lhs; whnf; arg 1; whnf
 . conv => lhs; whnf
|apply zAu rfl rfl rfl rfl
 . first | exact zo | (conv => lhs; whnf; arg 1; whnf)
 . first | exact fun _ => rfl | (intro _; kernel_rfl)
 . conv => lhs; whnf
 . conv => lhs; whnf
|apply zBu rfl rfl
 . conv => lhs; whnf
 . first | exact zo | (conv => lhs; whnf; arg 1; whnf)
|apply zBC rfl rfl
 . conv => lhs; whnf
 . first | exact zo | (conv => lhs; whnf; arg 1; whnf)
 . conv => lhs; whnf; arg 1; whnf
 . rfl
 . rfl
|apply zBO rfl rfl
 . conv => lhs; whnf
 . first | exact zo | (conv => lhs; whnf; arg 1; whnf)
 . first | exact fun _ => rfl | (intro _; kernel_rfl)
 . conv => lhs; whnf
 . conv => lhs; whnf
|apply zq (by kernel_rfl) (by kernel_rfl)
|apply zAR
|apply zAQ rfl
 . conv => lhs; whnf
 . conv => lhs; whnf; arg 2; whnf
|apply zAU rfl
 . conv => lhs; whnf
 . conv => lhs; whnf
 . first | exact hj | exact h1 | exact h3
|apply zAl rfl rfl rfl
 . conv => lhs; whnf
 . rfl
 . rfl
 . conv => lhs; whnf; arg 1; whnf
 . conv => lhs; whnf; arg 1; whnf
 . exact ⟨by kernel_rfl,by kernel_rfl⟩
 . rfl
|apply zD4 rfl rfl
 . conv => lhs; whnf
 . first | exact zo | (conv => lhs; whnf; arg 1; whnf)
 . first | exact fun _ => rfl | (intro _; kernel_rfl)
 . conv => lhs; whnf
 . rfl
 . rfl
 . conv => lhs; whnf; arg 1; whnf
 . conv => lhs; whnf
|apply zCl rfl rfl
 . conv => lhs; whnf
 . first | exact zo | (conv => lhs; whnf; arg 1; whnf)
|apply zCO rfl rfl
 . conv => lhs; whnf
 . first | exact zo | (conv => lhs; whnf; arg 1; whnf)
 . conv => lhs; whnf; arg 1; whnf
 . rfl
 . rfl
|apply zB1 rfl rfl
 . conv => lhs; whnf
 . first | exact zo | (conv => lhs; whnf; arg 1; whnf)
 . first | exact fun _ => rfl | (intro _; kernel_rfl)
 . conv => lhs; whnf
 . conv => lhs; whnf
|exact zR
|exact zX
|exact all_nil
|show List.all _ _ = true; rfl
|show zAC _ _ = true; rfl
|exact ([] : List Nat)
|exact (1000000 : Nat)
|apply zS
 . conv => lhs; whnf; arg 1; arg 1; whnf
|apply zU
 . conv => lhs; whnf; arg 1; arg 1; whnf
|refine zd (by conv => lhs; whnf) ?_ ?_ <;> intro hb
|refine zv ?_
|refine zh ?_
|refine zJ ?_
|refine zK ?_
|refine zH ?_
|refine zE rfl ?_
|refine zM rfl ?_
|refine zL ?_
|refine zO ?_
|refine zC ?_
|refine zN ?_
|refine zAG ?_
|refine zB ?_
|refine ⟨_,by conv => lhs; whnf; arg 2; whnf,?_⟩; conv => rhs; whnf
|exact trivial
|intro hg)
     all_goals first
      | (refine zAi ?_; simp only [zAT,zBB,zAh,List.append_assoc]; done)
      | (simp only [ByteArray.size_append,zAM,zAI,List.size_toArray,List.length_append,List.length_cons,List.length_nil,maxLen,Int.toNat_natCast,Nat.zero_add,Nat.reduceAdd]; omega)
      | skip
   . have g1 : decide (((zAS (fun i => inB6 K6 (gD (x.f 1).l i)) (x.f 1).l.length).length : Int) > 0) = true:=decide_eq_true (by omega)
     have e : fdT6 K6 x = tx (x.f 0).s ++ ([40] ++ zHM K6 (x.f 1).l ++ [41]) ++ [58,32] ++ refB (tx ((x.f 2).f 0).s) ((x.f 2).f 1).l ++ zAr K6 (x.f 3).l:=by unfold fdT6; rw [if_neg h0]
     rw [e]
     repeat' (first
|apply zG
 . conv => lhs; whnf
 . assumption
|apply zF
 . conv => lhs; whnf
 . assumption
|refine ze ?_
|refine zY ?_
|refine zAP ?_
|refine zA ?_
|refine zI ?_
|refine zZ ?_
|refine zW ?_
|refine zi ?_
|apply aw_1
 conv => whnf
 refine ⟨?_,trivial⟩
|apply s_1
 conv => whnf; arg 1; arg 4; arg 3; whnf
 refine ⟨?_,?_⟩
|apply zAF rfl
 . conv => lhs; whnf
 . conv => lhs; whnf; arg 2; whnf
|apply zk rfl
 . conv => lhs; whnf
 . conv => lhs; whnf
 . first | exact hj | exact h1 | exact h3
|apply zAO rfl rfl rfl rfl
 . conv => lhs; whnf; arg 1; whnf
 . rfl
|apply zAV rfl rfl rfl rfl
 . conv => lhs; whnf; arg 1; whnf
 . rfl
|apply z8 rfl rfl rfl
 . conv => lhs; whnf
 . conv => lhs; whnf; arg 1; whnf
 . conv => lhs; whnf; arg 1; whnf
 . exact ⟨by kernel_rfl,by kernel_rfl⟩
 . rfl
|apply zCM rfl rfl
 . conv => lhs; whnf
 . first | exact zo | (conv => lhs; whnf; arg 1; whnf)
 . first | exact fun _ => rfl | (intro _; kernel_rfl)
 . conv => lhs; whnf
 . conv => lhs; whnf; arg 1; whnf
 . conv => lhs; whnf
|apply zAu rfl rfl rfl rfl
 . first | exact zo | (conv => lhs; whnf; arg 1; whnf)
 . first | exact fun _ => rfl | (intro _; kernel_rfl)
 . conv => lhs; whnf
 . conv => lhs; whnf
|apply zBu rfl rfl
 . conv => lhs; whnf
 . first | exact zo | (conv => lhs; whnf; arg 1; whnf)
|apply zBC rfl rfl
 . conv => lhs; whnf
 . first | exact zo | (conv => lhs; whnf; arg 1; whnf)
 . conv => lhs; whnf; arg 1; whnf
 . rfl
 . rfl
|apply zBO rfl rfl
 . conv => lhs; whnf
 . first | exact zo | (conv => lhs; whnf; arg 1; whnf)
 . first | exact fun _ => rfl | (intro _; kernel_rfl)
 . conv => lhs; whnf
 . conv => lhs; whnf
|apply zq (by kernel_rfl) (by kernel_rfl)
|apply zAR
|apply zAQ rfl
 . conv => lhs; whnf
 . conv => lhs; whnf; arg 2; whnf
|apply zAU rfl
 . conv => lhs; whnf
 . conv => lhs; whnf
 . first | exact hj | exact h1 | exact h3
|apply zAl rfl rfl rfl
 . conv => lhs; whnf
 . rfl
 . rfl
 . conv => lhs; whnf; arg 1; whnf
 . conv => lhs; whnf; arg 1; whnf
 . exact ⟨by kernel_rfl,by kernel_rfl⟩
 . rfl
|apply zD4 rfl rfl
 . conv => lhs; whnf
 . first | exact zo | (conv => lhs; whnf; arg 1; whnf)
 . first | exact fun _ => rfl | (intro _; kernel_rfl)
 . conv => lhs; whnf
 . rfl
 . rfl
 . conv => lhs; whnf; arg 1; whnf
 . conv => lhs; whnf
|apply zCl rfl rfl
 . conv => lhs; whnf
 . first | exact zo | (conv => lhs; whnf; arg 1; whnf)
|apply zCO rfl rfl
 . conv => lhs; whnf
 . first | exact zo | (conv => lhs; whnf; arg 1; whnf)
 . conv => lhs; whnf; arg 1; whnf
 . rfl
 . rfl
|apply zB1 rfl rfl
 . conv => lhs; whnf
 . first | exact zo | (conv => lhs; whnf; arg 1; whnf)
 . first | exact fun _ => rfl | (intro _; kernel_rfl)
 . conv => lhs; whnf
 . conv => lhs; whnf
|exact zR
|exact zX
|exact all_nil
|show List.all _ _ = true; rfl
|show zAC _ _ = true; rfl
|exact ([] : List Nat)
|exact (1000000 : Nat)
|apply zS
 . conv => lhs; whnf; arg 1; arg 1; whnf
|apply zU
 . conv => lhs; whnf; arg 1; arg 1; whnf
|refine zd (by conv => lhs; whnf) ?_ ?_ <;> intro hb
|refine zv ?_
|refine zh ?_
|refine zJ ?_
|refine zK ?_
|refine zH ?_
|refine zE rfl ?_
|refine zM rfl ?_
|refine zL ?_
|refine zO ?_
|refine zC ?_
|refine zN ?_
|refine zAG ?_
|refine zB ?_
|refine ⟨_,by conv => lhs; whnf; arg 2; whnf,?_⟩; conv => rhs; whnf
|exact trivial
|intro hg)
     all_goals first
      | (refine zAi ?_; simp only [zAT,zBB,zAh,List.append_assoc]; done)
      | (simp only [ByteArray.size_append,zAM,zAI,List.size_toArray,List.length_append,List.length_cons,List.length_nil,maxLen,Int.toNat_natCast,Nat.zero_add,Nat.reduceAdd]; omega)
      | skip
end Go.Proofs.YtdlnnlglmifceaaDoor
namespace Go.Proofs.YtdlnnlglmifceaaDoor
open Go.RowKit
set_option linter.unusedSectionVars false
theorem strs_of {l : List D} (h : ∀ i,i < l.length -> ∃ s,gD l i = .str s) : zAS (fun i => tx (gD l i).s) l.length = l:=by
 unfold zAS
 apply List.ext_getElem (by simp)
 intro i h1 h2
 obtain ⟨s,e⟩:=h i h2
 rw [List.getElem_map,List.getElem_range]
 rw [zBo h2] at e
 show D.str (bs (tx (gD l i).s)) = l[i]
 rw [zBo h2,e]
 show D.str (bs (tx s)) = D.str s
 rw [zDf]
attribute [local irreducible] wpList Calls Code.wp AW AWo OpOk seqK zAf zAj loopK endK AC zAH Yld Sub
attribute [local irreducible] ACB ACX YldG absLexH
noncomputable def HbU (d : D) (i : Nat) : Vst 139:=stS 139 [(1,.bx 1 0),(5,.own 5 9 (zAS (fun i => tx ((gD (d.f 5).l i).f 0).s) i)),(38,.sl 53 (d.f 5).l),(39,.c (.int .i64 ((d.f 5).l.length : Nat))),(40,.c (.int .i64 (i : Int)))] [(1,.box 35 (cellsV Tryd.prog 12 35 d)),(5,.tok 9 (zAS (fun i => tx ((gD (d.f 5).l i).f 0).s) i).length)]
noncomputable def HbT (P : List UInt8) (f : Nat -> List UInt8) (n i : Nat) : Vst 139:=stS 139 [(14,.c (.string (bs (P ++ flatN (fun i => [32,32] ++ f i ++ [10]) i)))),(125,.own 3 9 (zAS f n)),(126,.c (.int .i64 (n : Nat))),(127,.c (.int .i64 (i : Int)))] []
noncomputable def HbL (d : D) (P : List UInt8) (f : Nat -> List UInt8) (q : Nat) (e : TypeId) (l : List D) (i : Nat) : Vst 139:=stS 139 [(1,.bx 1 0),(3,.own 3 9 (zAS f i)),(4,.c (.string (bs P))),(q,.sl e l),(q + 1,.c (.int .i64 (l.length : Nat))),(q + 2,.c (.int .i64 (i : Int)))] [(1,.box 35 (cellsV Tryd.prog 12 35 d)),(3,.tok 9 (zAS f i).length)]
theorem blockP_ac {d : D} (h : DefP d) (hw : wideD d) (hb : bulkD d <= 1048576) (hst : ∀ i,i < (d.f 2).l.length -> ∃ s,gD (d.f 2).l i = .str s) : AC EN Tryd.prog 22 [.agg (cellsV Tryd.prog 12 35 d)] (.c (.string (bs (dfT K6 d)))):=by
 have w:=zy d
 have wf:=zAd d 7
 simp only [sumN] at wf
 have b1:=zAv (d.f 1); have t1:=zBL (d.f 1).s
 have b2:=zAE (d.f 2); have l2:=zAe (d.f 2).l
 have b3:=zAE (d.f 3)
 have b4:=zAE (d.f 4); have l4:=zAe (d.f 4).l
 have b5:=zAE (d.f 5); have l5:=zAe (d.f 5).l
 have b6:=zAE (d.f 6); have l6:=zAe (d.f 6).l
 have hT:=zDw (dok6 h.dirs (hw.f 3).l (by omega))
 have zT:=zA8 K6 (d.f 3).l (hw.f 3).l
 have zD:=dfT_len K6 d hw
 have hk:=h.kind
 have h9 : (d.f 0).n = 3 \/ ((d.f 0).n = 1 /\ 0 < (d.f 2).l.length) \/ ((d.f 0).n = 1 /\ ¬ 0 < (d.f 2).l.length) \/ (d.f 0).n = 2 \/ (d.f 0).n = 4 \/ (d.f 0).n = 5:=by omega
 rcases h9 with h0 | ⟨h0,h2⟩ | ⟨h0,h2⟩ | h0 | h0 | h0
 . have g3 : ((d.f 0).n == 3) = true:=by rw [h0]; rfl
   have hj:=zCX (zAS (fun i => tx ((gD (d.f 5).l i).f 0).s) (d.f 5).l.length) [32,124,32] (by rw [zAc]; omega) (by rw [zAx (fun x => tx (x.f 0).s)]; exact Nat.le_trans (zEB (d.f 5).l) (by omega))
   rw [zAx (fun x => tx (x.f 0).s)] at hj
   have zj:=zEB (d.f 5).l
   have e : dfT K6 d = [117,110,105,111,110,32] ++ tx (d.f 1).s ++ zAr K6 (d.f 3).l ++ [32,61,32] ++ Lib.join ((d.f 5).l.map fun x => tx (x.f 0).s) [32,124,32] ++ [10]:=by
    unfold dfT; rw [if_pos h0]; rfl
   rw [e]
   refine zV 139 Tryd.func22 rfl rfl rfl rfl ?_
   intro s w he
   repeat' (first
|apply zG
 . conv => lhs; whnf
 . assumption
|refine zA ?_
|refine zI ?_
|refine zZ ?_
|apply aw_1
 conv => whnf
 refine ⟨?_,trivial⟩
|apply s_1
 conv => whnf; arg 1; arg 4; arg 3; whnf
 refine ⟨?_,?_⟩
|apply zAO rfl rfl rfl rfl
 . conv => lhs; whnf; arg 1; whnf
 . rfl
|exact trivial)
   refine zAA (Sub.own (t:=5) (e:=9) rfl rfl) ?_
   refine z7 (fun j st => ∃ i,i + j = (d.f 5).l.length /\ Sub (cx EN Tryd.prog s w he) st (HbU d i)) (d.f 5).l.length ⟨0,by omega,Sub.live ⟨rfl,rfl,rfl,rfl,rfl,trivial⟩ ⟨rfl,rfl,trivial⟩⟩ ?_
   rintro j st ⟨i,hij,hs2⟩
   refine zAA hs2 ?_
   clear hs2
   have htk:=zAc (fun i => tx ((gD (d.f 5).l i).f 0).s) i
   by_cases hi : i < (d.f 5).l.length
   . have f1 : decide ((i : Int) < ((d.f 5).l.length : Nat)) = true:=decide_eq_true (by omega)
     repeat' (first
|apply zG
 . conv => lhs; whnf
 . assumption
|refine zA ?_
|refine zI ?_
|refine zZ ?_
|refine zW ?_
|apply aw_1
 conv => whnf
 refine ⟨?_,trivial⟩
|apply s_1
 conv => whnf; arg 1; arg 4; arg 3; whnf
 refine ⟨?_,?_⟩
|apply z8 rfl rfl rfl
 . conv => lhs; whnf
 . conv => lhs; whnf; arg 1; whnf
 . conv => lhs; whnf; arg 1; whnf
 . exact ⟨by kernel_rfl,by kernel_rfl⟩
 . rfl
|apply zCM rfl rfl
 . conv => lhs; whnf
 . first | exact zo | (conv => lhs; whnf; arg 1; whnf)
 . first | exact fun _ => rfl | (intro _; kernel_rfl)
 . conv => lhs; whnf
 . conv => lhs; whnf; arg 1; whnf
 . conv => lhs; whnf
|apply zBC rfl rfl
 . conv => lhs; whnf
 . first | exact zo | (conv => lhs; whnf; arg 1; whnf)
 . conv => lhs; whnf; arg 1; whnf
 . rfl
 . rfl
|exact trivial)
     all_goals first
      | exact zu (by omega)
      | exact zx hi
      | exact zCA (by omega) (by omega)
      | (refine za (j':=j - 1) (by omega) ⟨i + 1,by omega,Sub.live ⟨rfl,?_,rfl,rfl,rfl,trivial⟩ ⟨rfl,?_,trivial⟩⟩
         . show V.own 5 _ (zAS _ i ++ [.str ((gD (d.f 5).l i).f 0).s]) = _
           rw [zAN,zDf]
         . show some (Res.tok _ ((zAS _ i).length + 1)) = _
           rw [zAN,List.length_append]; rfl)
      | skip
   . have f1 : decide ((i : Int) < ((d.f 5).l.length : Nat)) = false:=decide_eq_false (by omega)
     have ei : i = (d.f 5).l.length:=by omega
     subst ei
     repeat' (first
|apply zF
 . conv => lhs; whnf
 . assumption
|refine zA ?_
|refine zI ?_
|refine zZ ?_
|apply aw_1
 conv => whnf
 refine ⟨?_,trivial⟩
|apply s_1
 conv => whnf; arg 1; arg 4; arg 3; whnf
 refine ⟨?_,?_⟩
|apply zq (by kernel_rfl) (by kernel_rfl)
|apply zAR
|apply zAQ rfl
 . conv => lhs; whnf
 . conv => lhs; whnf; arg 2; whnf
|apply zAU rfl
 . conv => lhs; whnf
 . conv => lhs; whnf
 . first | exact hj | exact hT
|exact zR
|exact zX
|exact (1000000 : Nat)
|refine zJ ?_
|refine zK ?_
|refine zH ?_
|refine zE rfl ?_
|refine zC ?_
|refine zB ?_
|refine ⟨_,by conv => lhs; whnf; arg 2; whnf,?_⟩; conv => rhs; whnf
|exact trivial)
     all_goals first
      | (refine zAi ?_; simp only [zAT,zBB,zAh,List.append_assoc]; done)
      | (simp only [ByteArray.size_append,zAM,zAI,List.size_toArray,List.length_append,List.length_cons,List.length_nil,maxLen,Int.toNat_natCast,Nat.zero_add,Nat.reduceAdd]; omega)
      | skip
 . have g3 : ((d.f 0).n == 3) = false:=by rw [h0]; rfl
   have g1 : ((d.f 0).n == 1) = true:=by rw [h0]; rfl
   have g4 : ((d.f 0).n == 4) = false:=by rw [h0]; rfl
   have gf : decide (((d.f 2).l.length : Int) > 0) = true:=decide_eq_true (by omega)
   have zf:=zIJ d
   have zjf : (Lib.join ((d.f 2).l.map fun x => tx x.s) [32,38,32]).length <= 4 * bulkL (d.f 2).l:=by
    unfold fcT6 at zf
    rw [if_pos ⟨h0,h2⟩] at zf
    simp only [List.length_append,zF2,List.length_cons,List.length_nil] at zf
    omega
   have hjf:=zCX (zAS (fun i => tx (gD (d.f 2).l i).s) (d.f 2).l.length) [32,38,32] (by rw [zAc]; omega) (by
    rw [zAx (fun x => tx x.s)]
    omega)
   rw [zAx (fun x => tx x.s),strs_of hst] at hjf
   have hwd : zBr (d.f 0).n ++ [32] = [116,121,112,101,32]:=by rw [h0]; rfl
   have hfc : fcT6 d = [32,105,109,112,108,101,109,101,110,116,115,32] ++ Lib.join ((d.f 2).l.map fun x => tx x.s) [32,38,32]:=by unfold fcT6; rw [if_pos ⟨h0,h2⟩]; rfl
   obtain ⟨P,eP⟩ : ∃ P,[116,121,112,101,32] ++ tx (d.f 1).s ++ ([32,105,109,112,108,101,109,101,110,116,115,32] ++ Lib.join ((d.f 2).l.map fun x => tx x.s) [32,38,32]) = P:=⟨_,rfl⟩
   have e : dfT K6 d = P ++ zAr K6 (d.f 3).l ++ [32,123,10] ++ flatN (fun i => [32,32] ++ fdT6 K6 (gD (d.f 4).l i) ++ [10]) (d.f 4).l.length ++ [125,10]:=by
    unfold dfT hdS zCL
    rw [if_neg (by omega),hwd,hfc,eP]
    rw [if_neg (by omega),if_neg (by omega)]
    rfl
   rw [e] at zD |-
   simp only [List.length_append,List.length_cons,List.length_nil] at zD
   clear e hwd
   refine zV 139 Tryd.func22 rfl rfl rfl rfl ?_
   intro s w he
   repeat' (first
|apply zG
 . conv => lhs; whnf
 . assumption
|apply zF
 . conv => lhs; whnf
 . assumption
|refine zA ?_
|refine zI ?_
|refine zZ ?_
|apply aw_1
 conv => whnf
 refine ⟨?_,trivial⟩
|apply s_1
 conv => whnf; arg 1; arg 4; arg 3; whnf
 refine ⟨?_,?_⟩
|apply zk rfl
 . conv => lhs; whnf
 . conv => lhs; whnf
 . first | exact hjf
|apply zAO rfl rfl rfl rfl
 . conv => lhs; whnf; arg 1; whnf
 . rfl
|exact trivial)
   all_goals first
    | (simp only [ByteArray.size_append,zAM,zAI,List.size_toArray,List.length_append,List.length_cons,List.length_nil,maxLen,Int.toNat_natCast,Nat.zero_add,Nat.reduceAdd]; omega)
    | skip
   refine zAA (Sub.own (t:=3) (e:=9) rfl rfl) ?_
   refine z7 (fun j st => ∃ i,i + j = (d.f 4).l.length /\ Sub (cx EN Tryd.prog s w he) st (HbL d P (fun i => fdT6 K6 (gD (d.f 4).l i)) 85 40 (d.f 4).l i)) (d.f 4).l.length ⟨0,by omega,Sub.live ⟨rfl,rfl,?_,rfl,rfl,rfl,trivial⟩ ⟨rfl,rfl,trivial⟩⟩ ?_
   . refine zAi ?_
     rw [<- eP]
     simp only [zAT,zBB,zAh,List.append_assoc]
   rintro j st ⟨i,hij,hs2⟩
   refine zAA hs2 ?_
   clear hs2
   have htk:=zAc (fun i => fdT6 K6 (gD (d.f 4).l i)) i
   by_cases hi : i < (d.f 4).l.length
   . have f1 : decide ((i : Int) < ((d.f 4).l.length : Nat)) = true:=decide_eq_true (by omega)
     have hbg:=zAa hi
     have hc:=zEZ (h.fds i hi) ((hw.f 4).l i) (by omega)
     repeat' (first
|apply zG
 . conv => lhs; whnf
 . assumption
|refine zA ?_
|refine zI ?_
|refine zZ ?_
|refine zW ?_
|apply aw_1
 conv => whnf
 refine ⟨?_,trivial⟩
|apply s_1
 conv => whnf; arg 1; arg 4; arg 3; whnf
 refine ⟨?_,?_⟩
|apply zk rfl
 . conv => lhs; whnf
 . conv => lhs; whnf
 . first | exact hc
|apply z8 rfl rfl rfl
 . conv => lhs; whnf
 . conv => lhs; whnf; arg 1; whnf
 . conv => lhs; whnf; arg 1; whnf
 . exact ⟨by kernel_rfl,by kernel_rfl⟩
 . rfl
|apply zCM rfl rfl
 . conv => lhs; whnf
 . first | exact zo | (conv => lhs; whnf; arg 1; whnf)
 . first | exact fun _ => rfl | (intro _; kernel_rfl)
 . conv => lhs; whnf
 . conv => lhs; whnf; arg 1; whnf
 . conv => lhs; whnf
|apply zBC rfl rfl
 . conv => lhs; whnf
 . first | exact zo | (conv => lhs; whnf; arg 1; whnf)
 . conv => lhs; whnf; arg 1; whnf
 . rfl
 . rfl
|exact trivial)
     all_goals first
      | exact zu (by omega)
      | exact zx hi
      | exact zCA (by omega) (by omega)
      | (refine za (j':=j - 1) (by omega) ⟨i + 1,by omega,Sub.live ⟨rfl,?_,rfl,rfl,rfl,rfl,trivial⟩ ⟨rfl,?_,trivial⟩⟩
         . show V.own 3 _ (zAS _ i ++ [.str (bs (fdT6 K6 (gD (d.f 4).l i)))]) = _
           rw [zAN]
           skip
         . show some (Res.tok _ ((zAS _ i).length + 1)) = _
           rw [zAN,List.length_append]; rfl)
      | (simp only [ByteArray.size_append,zAM,zAI,List.size_toArray,List.length_append,List.length_cons,List.length_nil,maxLen,Int.toNat_natCast,Nat.zero_add,Nat.reduceAdd]; omega)
      | skip
   have f1 : decide ((i : Int) < ((d.f 4).l.length : Nat)) = false:=decide_eq_false (by omega)
   have ei : i = (d.f 4).l.length:=by omega
   subst ei
   repeat' (first
|apply zF
 . conv => lhs; whnf
 . assumption
|refine zA ?_
|refine zI ?_
|refine zZ ?_
|refine zW ?_
|apply aw_1
 conv => whnf
 refine ⟨?_,trivial⟩
|apply s_1
 conv => whnf; arg 1; arg 4; arg 3; whnf
 refine ⟨?_,?_⟩
|apply zk rfl
 . conv => lhs; whnf
 . conv => lhs; whnf
 . first | exact hT
|refine zJ ?_
|refine zE rfl ?_
|refine zC ?_
|exact trivial)
   all_goals first
    | (simp only [ByteArray.size_append,zAM,zAI,List.size_toArray,List.length_append,List.length_cons,List.length_nil,maxLen,Int.toNat_natCast,Nat.zero_add,Nat.reduceAdd]; omega)
    | skip
   refine z7 (fun j st => ∃ i,i + j = (d.f 4).l.length /\ Sub (cx EN Tryd.prog s w he) st (HbT (P ++ zAr K6 (d.f 3).l ++ [32,123,10]) (fun i => fdT6 K6 (gD (d.f 4).l i)) (d.f 4).l.length i)) (d.f 4).l.length ⟨0,by omega,Sub.live ⟨?_,rfl,?_,rfl,trivial⟩ trivial⟩ ?_
   . refine zAi ?_
     show _ = tx (bs (P ++ zAr K6 (d.f 3).l ++ [32,123,10] ++ []))
     simp only [zAT,zBB,zAh,List.append_nil]
   . show V.c (.int .i64 ((zAS _ _).length : Int)) = _
     rw [htk]
   rintro j st ⟨i,hij2,hs2⟩
   refine zAA hs2 ?_
   clear hs2
   by_cases hi : i < (d.f 4).l.length
   . have f2 : decide ((i : Int) < ((d.f 4).l.length : Nat)) = true:=decide_eq_true (by omega)
     have hpt:=zB6 (fun i => [32,32] ++ fdT6 K6 (gD (d.f 4).l i) ++ [10]) hi
     have hat:=zCR (fun i => fdT6 K6 (gD (d.f 4).l i)) hi
     try dsimp only at hpt
     try dsimp only at hat
     simp only [List.length_append,List.length_cons,List.length_nil] at hpt
     repeat' (first
|apply zG
 . conv => lhs; whnf
 . assumption
|refine zA ?_
|refine zI ?_
|refine zZ ?_
|refine zW ?_
|apply aw_1
 conv => whnf
 refine ⟨?_,trivial⟩
|apply s_1
 conv => whnf; arg 1; arg 4; arg 3; whnf
 refine ⟨?_,?_⟩
|exact trivial)
     all_goals first
      | exact zu (by omega)
      | exact zx hi
      | (refine za (j':=j - 1) (by omega) ⟨i + 1,by omega,Sub.live ⟨?_,rfl,rfl,rfl,trivial⟩ trivial⟩
         refine zAi ?_
         rw [zCY,hat]
         simp only [zAT,zBB,zAh,List.append_assoc])
      | (rw [hat]; (simp only [ByteArray.size_append,zAM,zAI,List.size_toArray,List.length_append,List.length_cons,List.length_nil,maxLen,Int.toNat_natCast,Nat.zero_add,Nat.reduceAdd]; omega))
      | (simp only [ByteArray.size_append,zAM,zAI,List.size_toArray,List.length_append,List.length_cons,List.length_nil,maxLen,Int.toNat_natCast,Nat.zero_add,Nat.reduceAdd]; omega)
      | (rw [htk]; exact zx hi)
      | skip
   . have f2 : decide ((i : Int) < ((d.f 4).l.length : Nat)) = false:=decide_eq_false (by omega)
     have ei : i = (d.f 4).l.length:=by omega
     subst ei
     repeat' (first
|apply zF
 . conv => lhs; whnf
 . assumption
|refine zA ?_
|refine zI ?_
|refine zZ ?_
|apply aw_1
 conv => whnf
 refine ⟨?_,trivial⟩
|apply s_1
 conv => whnf; arg 1; arg 4; arg 3; whnf
 refine ⟨?_,?_⟩
|refine zJ ?_
|refine zE rfl ?_
|refine zC ?_
|refine zB ?_
|refine ⟨_,by conv => lhs; whnf; arg 2; whnf,?_⟩; conv => rhs; whnf
|exact trivial)
     all_goals first
      | (refine zAi ?_; simp only [zAT,zBB,zAh,List.append_assoc]; done)
      | (simp only [ByteArray.size_append,zAM,zAI,List.size_toArray,List.length_append,List.length_cons,List.length_nil,maxLen,Int.toNat_natCast,Nat.zero_add,Nat.reduceAdd]; omega)
      | skip
 . have g3 : ((d.f 0).n == 3) = false:=by rw [h0]; rfl
   have g1 : ((d.f 0).n == 1) = true:=by rw [h0]; rfl
   have g4 : ((d.f 0).n == 4) = false:=by rw [h0]; rfl
   have gf : decide (((d.f 2).l.length : Int) > 0) = false:=decide_eq_false (by omega)
   have hwd : zBr (d.f 0).n ++ [32] = [116,121,112,101,32]:=by rw [h0]; rfl
   have hfc : fcT6 d = []:=by unfold fcT6; rw [if_neg (fun q => h2 q.2)]
   obtain ⟨P,eP⟩ : ∃ P,[116,121,112,101,32] ++ tx (d.f 1).s = P:=⟨_,rfl⟩
   have e : dfT K6 d = P ++ zAr K6 (d.f 3).l ++ [32,123,10] ++ flatN (fun i => [32,32] ++ fdT6 K6 (gD (d.f 4).l i) ++ [10]) (d.f 4).l.length ++ [125,10]:=by
    unfold dfT hdS zCL
    rw [if_neg (by omega),hwd,hfc,List.append_nil,eP]
    rw [if_neg (by omega),if_neg (by omega)]
    rfl
   rw [e] at zD |-
   simp only [List.length_append,List.length_cons,List.length_nil] at zD
   clear e hwd
   refine zV 139 Tryd.func22 rfl rfl rfl rfl ?_
   intro s w he
   repeat' (first
|apply zG
 . conv => lhs; whnf
 . assumption
|apply zF
 . conv => lhs; whnf
 . assumption
|refine zA ?_
|refine zI ?_
|refine zZ ?_
|apply aw_1
 conv => whnf
 refine ⟨?_,trivial⟩
|apply s_1
 conv => whnf; arg 1; arg 4; arg 3; whnf
 refine ⟨?_,?_⟩
|apply zAO rfl rfl rfl rfl
 . conv => lhs; whnf; arg 1; whnf
 . rfl
|exact trivial)
   all_goals first
    | (simp only [ByteArray.size_append,zAM,zAI,List.size_toArray,List.length_append,List.length_cons,List.length_nil,maxLen,Int.toNat_natCast,Nat.zero_add,Nat.reduceAdd]; omega)
    | skip
   refine zAA (Sub.own (t:=3) (e:=9) rfl rfl) ?_
   refine z7 (fun j st => ∃ i,i + j = (d.f 4).l.length /\ Sub (cx EN Tryd.prog s w he) st (HbL d P (fun i => fdT6 K6 (gD (d.f 4).l i)) 85 40 (d.f 4).l i)) (d.f 4).l.length ⟨0,by omega,Sub.live ⟨rfl,rfl,?_,rfl,rfl,rfl,trivial⟩ ⟨rfl,rfl,trivial⟩⟩ ?_
   . refine zAi ?_
     rw [<- eP]
     simp only [zAT,zBB,zAh,List.append_assoc]
   rintro j st ⟨i,hij,hs2⟩
   refine zAA hs2 ?_
   clear hs2
   have htk:=zAc (fun i => fdT6 K6 (gD (d.f 4).l i)) i
   by_cases hi : i < (d.f 4).l.length
   . have f1 : decide ((i : Int) < ((d.f 4).l.length : Nat)) = true:=decide_eq_true (by omega)
     have hbg:=zAa hi
     have hc:=zEZ (h.fds i hi) ((hw.f 4).l i) (by omega)
     repeat' (first
|apply zG
 . conv => lhs; whnf
 . assumption
|refine zA ?_
|refine zI ?_
|refine zZ ?_
|refine zW ?_
|apply aw_1
 conv => whnf
 refine ⟨?_,trivial⟩
|apply s_1
 conv => whnf; arg 1; arg 4; arg 3; whnf
 refine ⟨?_,?_⟩
|apply zk rfl
 . conv => lhs; whnf
 . conv => lhs; whnf
 . first | exact hc
|apply z8 rfl rfl rfl
 . conv => lhs; whnf
 . conv => lhs; whnf; arg 1; whnf
 . conv => lhs; whnf; arg 1; whnf
 . exact ⟨by kernel_rfl,by kernel_rfl⟩
 . rfl
|apply zCM rfl rfl
 . conv => lhs; whnf
 . first | exact zo | (conv => lhs; whnf; arg 1; whnf)
 . first | exact fun _ => rfl | (intro _; kernel_rfl)
 . conv => lhs; whnf
 . conv => lhs; whnf; arg 1; whnf
 . conv => lhs; whnf
|apply zBC rfl rfl
 . conv => lhs; whnf
 . first | exact zo | (conv => lhs; whnf; arg 1; whnf)
 . conv => lhs; whnf; arg 1; whnf
 . rfl
 . rfl
|exact trivial)
     all_goals first
      | exact zu (by omega)
      | exact zx hi
      | exact zCA (by omega) (by omega)
      | (refine za (j':=j - 1) (by omega) ⟨i + 1,by omega,Sub.live ⟨rfl,?_,rfl,rfl,rfl,rfl,trivial⟩ ⟨rfl,?_,trivial⟩⟩
         . show V.own 3 _ (zAS _ i ++ [.str (bs (fdT6 K6 (gD (d.f 4).l i)))]) = _
           rw [zAN]
           skip
         . show some (Res.tok _ ((zAS _ i).length + 1)) = _
           rw [zAN,List.length_append]; rfl)
      | (simp only [ByteArray.size_append,zAM,zAI,List.size_toArray,List.length_append,List.length_cons,List.length_nil,maxLen,Int.toNat_natCast,Nat.zero_add,Nat.reduceAdd]; omega)
      | skip
   have f1 : decide ((i : Int) < ((d.f 4).l.length : Nat)) = false:=decide_eq_false (by omega)
   have ei : i = (d.f 4).l.length:=by omega
   subst ei
   repeat' (first
|apply zF
 . conv => lhs; whnf
 . assumption
|refine zA ?_
|refine zI ?_
|refine zZ ?_
|refine zW ?_
|apply aw_1
 conv => whnf
 refine ⟨?_,trivial⟩
|apply s_1
 conv => whnf; arg 1; arg 4; arg 3; whnf
 refine ⟨?_,?_⟩
|apply zk rfl
 . conv => lhs; whnf
 . conv => lhs; whnf
 . first | exact hT
|refine zJ ?_
|refine zE rfl ?_
|refine zC ?_
|exact trivial)
   all_goals first
    | (simp only [ByteArray.size_append,zAM,zAI,List.size_toArray,List.length_append,List.length_cons,List.length_nil,maxLen,Int.toNat_natCast,Nat.zero_add,Nat.reduceAdd]; omega)
    | skip
   refine z7 (fun j st => ∃ i,i + j = (d.f 4).l.length /\ Sub (cx EN Tryd.prog s w he) st (HbT (P ++ zAr K6 (d.f 3).l ++ [32,123,10]) (fun i => fdT6 K6 (gD (d.f 4).l i)) (d.f 4).l.length i)) (d.f 4).l.length ⟨0,by omega,Sub.live ⟨?_,rfl,?_,rfl,trivial⟩ trivial⟩ ?_
   . refine zAi ?_
     show _ = tx (bs (P ++ zAr K6 (d.f 3).l ++ [32,123,10] ++ []))
     simp only [zAT,zBB,zAh,List.append_nil]
   . show V.c (.int .i64 ((zAS _ _).length : Int)) = _
     rw [htk]
   rintro j st ⟨i,hij2,hs2⟩
   refine zAA hs2 ?_
   clear hs2
   by_cases hi : i < (d.f 4).l.length
   . have f2 : decide ((i : Int) < ((d.f 4).l.length : Nat)) = true:=decide_eq_true (by omega)
     have hpt:=zB6 (fun i => [32,32] ++ fdT6 K6 (gD (d.f 4).l i) ++ [10]) hi
     have hat:=zCR (fun i => fdT6 K6 (gD (d.f 4).l i)) hi
     try dsimp only at hpt
     try dsimp only at hat
     simp only [List.length_append,List.length_cons,List.length_nil] at hpt
     repeat' (first
|apply zG
 . conv => lhs; whnf
 . assumption
|refine zA ?_
|refine zI ?_
|refine zZ ?_
|refine zW ?_
|apply aw_1
 conv => whnf
 refine ⟨?_,trivial⟩
|apply s_1
 conv => whnf; arg 1; arg 4; arg 3; whnf
 refine ⟨?_,?_⟩
|exact trivial)
     all_goals first
      | exact zu (by omega)
      | exact zx hi
      | (refine za (j':=j - 1) (by omega) ⟨i + 1,by omega,Sub.live ⟨?_,rfl,rfl,rfl,trivial⟩ trivial⟩
         refine zAi ?_
         rw [zCY,hat]
         simp only [zAT,zBB,zAh,List.append_assoc])
      | (rw [hat]; (simp only [ByteArray.size_append,zAM,zAI,List.size_toArray,List.length_append,List.length_cons,List.length_nil,maxLen,Int.toNat_natCast,Nat.zero_add,Nat.reduceAdd]; omega))
      | (simp only [ByteArray.size_append,zAM,zAI,List.size_toArray,List.length_append,List.length_cons,List.length_nil,maxLen,Int.toNat_natCast,Nat.zero_add,Nat.reduceAdd]; omega)
      | (rw [htk]; exact zx hi)
      | skip
   . have f2 : decide ((i : Int) < ((d.f 4).l.length : Nat)) = false:=decide_eq_false (by omega)
     have ei : i = (d.f 4).l.length:=by omega
     subst ei
     repeat' (first
|apply zF
 . conv => lhs; whnf
 . assumption
|refine zA ?_
|refine zI ?_
|refine zZ ?_
|apply aw_1
 conv => whnf
 refine ⟨?_,trivial⟩
|apply s_1
 conv => whnf; arg 1; arg 4; arg 3; whnf
 refine ⟨?_,?_⟩
|refine zJ ?_
|refine zE rfl ?_
|refine zC ?_
|refine zB ?_
|refine ⟨_,by conv => lhs; whnf; arg 2; whnf,?_⟩; conv => rhs; whnf
|exact trivial)
     all_goals first
      | (refine zAi ?_; simp only [zAT,zBB,zAh,List.append_assoc]; done)
      | (simp only [ByteArray.size_append,zAM,zAI,List.size_toArray,List.length_append,List.length_cons,List.length_nil,maxLen,Int.toNat_natCast,Nat.zero_add,Nat.reduceAdd]; omega)
      | skip
 . have g3 : ((d.f 0).n == 3) = false:=by rw [h0]; rfl
   have g1 : ((d.f 0).n == 1) = false:=by rw [h0]; rfl
   have g2 : ((d.f 0).n == 2) = true:=by rw [h0]; rfl
   have g4 : ((d.f 0).n == 4) = false:=by rw [h0]; rfl
   have hwd : zBr (d.f 0).n ++ [32] = [105,110,116,101,114,102,97,99,101,32]:=by rw [h0]; rfl
   have hfc : fcT6 d = []:=by unfold fcT6; rw [if_neg (fun q => by omega)]
   obtain ⟨P,eP⟩ : ∃ P,[105,110,116,101,114,102,97,99,101,32] ++ tx (d.f 1).s = P:=⟨_,rfl⟩
   have e : dfT K6 d = P ++ zAr K6 (d.f 3).l ++ [32,123,10] ++ flatN (fun i => [32,32] ++ fdT6 K6 (gD (d.f 4).l i) ++ [10]) (d.f 4).l.length ++ [125,10]:=by
    unfold dfT hdS zCL
    rw [if_neg (by omega),hwd,hfc,List.append_nil,eP]
    rw [if_neg (by omega),if_neg (by omega)]
    rfl
   rw [e] at zD |-
   simp only [List.length_append,List.length_cons,List.length_nil] at zD
   clear e hwd
   refine zV 139 Tryd.func22 rfl rfl rfl rfl ?_
   intro s w he
   repeat' (first
|apply zG
 . conv => lhs; whnf
 . assumption
|apply zF
 . conv => lhs; whnf
 . assumption
|refine zA ?_
|refine zI ?_
|refine zZ ?_
|apply aw_1
 conv => whnf
 refine ⟨?_,trivial⟩
|apply s_1
 conv => whnf; arg 1; arg 4; arg 3; whnf
 refine ⟨?_,?_⟩
|apply zAO rfl rfl rfl rfl
 . conv => lhs; whnf; arg 1; whnf
 . rfl
|exact trivial)
   all_goals first
    | (simp only [ByteArray.size_append,zAM,zAI,List.size_toArray,List.length_append,List.length_cons,List.length_nil,maxLen,Int.toNat_natCast,Nat.zero_add,Nat.reduceAdd]; omega)
    | skip
   refine zAA (Sub.own (t:=3) (e:=9) rfl rfl) ?_
   refine z7 (fun j st => ∃ i,i + j = (d.f 4).l.length /\ Sub (cx EN Tryd.prog s w he) st (HbL d P (fun i => fdT6 K6 (gD (d.f 4).l i)) 85 40 (d.f 4).l i)) (d.f 4).l.length ⟨0,by omega,Sub.live ⟨rfl,rfl,?_,rfl,rfl,rfl,trivial⟩ ⟨rfl,rfl,trivial⟩⟩ ?_
   . refine zAi ?_
     rw [<- eP]
     simp only [zAT,zBB,zAh,List.append_assoc]
   rintro j st ⟨i,hij,hs2⟩
   refine zAA hs2 ?_
   clear hs2
   have htk:=zAc (fun i => fdT6 K6 (gD (d.f 4).l i)) i
   by_cases hi : i < (d.f 4).l.length
   . have f1 : decide ((i : Int) < ((d.f 4).l.length : Nat)) = true:=decide_eq_true (by omega)
     have hbg:=zAa hi
     have hc:=zEZ (h.fds i hi) ((hw.f 4).l i) (by omega)
     repeat' (first
|apply zG
 . conv => lhs; whnf
 . assumption
|refine zA ?_
|refine zI ?_
|refine zZ ?_
|refine zW ?_
|apply aw_1
 conv => whnf
 refine ⟨?_,trivial⟩
|apply s_1
 conv => whnf; arg 1; arg 4; arg 3; whnf
 refine ⟨?_,?_⟩
|apply zk rfl
 . conv => lhs; whnf
 . conv => lhs; whnf
 . first | exact hc
|apply z8 rfl rfl rfl
 . conv => lhs; whnf
 . conv => lhs; whnf; arg 1; whnf
 . conv => lhs; whnf; arg 1; whnf
 . exact ⟨by kernel_rfl,by kernel_rfl⟩
 . rfl
|apply zCM rfl rfl
 . conv => lhs; whnf
 . first | exact zo | (conv => lhs; whnf; arg 1; whnf)
 . first | exact fun _ => rfl | (intro _; kernel_rfl)
 . conv => lhs; whnf
 . conv => lhs; whnf; arg 1; whnf
 . conv => lhs; whnf
|apply zBC rfl rfl
 . conv => lhs; whnf
 . first | exact zo | (conv => lhs; whnf; arg 1; whnf)
 . conv => lhs; whnf; arg 1; whnf
 . rfl
 . rfl
|exact trivial)
     all_goals first
      | exact zu (by omega)
      | exact zx hi
      | exact zCA (by omega) (by omega)
      | (refine za (j':=j - 1) (by omega) ⟨i + 1,by omega,Sub.live ⟨rfl,?_,rfl,rfl,rfl,rfl,trivial⟩ ⟨rfl,?_,trivial⟩⟩
         . show V.own 3 _ (zAS _ i ++ [.str (bs (fdT6 K6 (gD (d.f 4).l i)))]) = _
           rw [zAN]
           skip
         . show some (Res.tok _ ((zAS _ i).length + 1)) = _
           rw [zAN,List.length_append]; rfl)
      | (simp only [ByteArray.size_append,zAM,zAI,List.size_toArray,List.length_append,List.length_cons,List.length_nil,maxLen,Int.toNat_natCast,Nat.zero_add,Nat.reduceAdd]; omega)
      | skip
   have f1 : decide ((i : Int) < ((d.f 4).l.length : Nat)) = false:=decide_eq_false (by omega)
   have ei : i = (d.f 4).l.length:=by omega
   subst ei
   repeat' (first
|apply zF
 . conv => lhs; whnf
 . assumption
|refine zA ?_
|refine zI ?_
|refine zZ ?_
|refine zW ?_
|apply aw_1
 conv => whnf
 refine ⟨?_,trivial⟩
|apply s_1
 conv => whnf; arg 1; arg 4; arg 3; whnf
 refine ⟨?_,?_⟩
|apply zk rfl
 . conv => lhs; whnf
 . conv => lhs; whnf
 . first | exact hT
|refine zJ ?_
|refine zE rfl ?_
|refine zC ?_
|exact trivial)
   all_goals first
    | (simp only [ByteArray.size_append,zAM,zAI,List.size_toArray,List.length_append,List.length_cons,List.length_nil,maxLen,Int.toNat_natCast,Nat.zero_add,Nat.reduceAdd]; omega)
    | skip
   refine z7 (fun j st => ∃ i,i + j = (d.f 4).l.length /\ Sub (cx EN Tryd.prog s w he) st (HbT (P ++ zAr K6 (d.f 3).l ++ [32,123,10]) (fun i => fdT6 K6 (gD (d.f 4).l i)) (d.f 4).l.length i)) (d.f 4).l.length ⟨0,by omega,Sub.live ⟨?_,rfl,?_,rfl,trivial⟩ trivial⟩ ?_
   . refine zAi ?_
     show _ = tx (bs (P ++ zAr K6 (d.f 3).l ++ [32,123,10] ++ []))
     simp only [zAT,zBB,zAh,List.append_nil]
   . show V.c (.int .i64 ((zAS _ _).length : Int)) = _
     rw [htk]
   rintro j st ⟨i,hij2,hs2⟩
   refine zAA hs2 ?_
   clear hs2
   by_cases hi : i < (d.f 4).l.length
   . have f2 : decide ((i : Int) < ((d.f 4).l.length : Nat)) = true:=decide_eq_true (by omega)
     have hpt:=zB6 (fun i => [32,32] ++ fdT6 K6 (gD (d.f 4).l i) ++ [10]) hi
     have hat:=zCR (fun i => fdT6 K6 (gD (d.f 4).l i)) hi
     try dsimp only at hpt
     try dsimp only at hat
     simp only [List.length_append,List.length_cons,List.length_nil] at hpt
     repeat' (first
|apply zG
 . conv => lhs; whnf
 . assumption
|refine zA ?_
|refine zI ?_
|refine zZ ?_
|refine zW ?_
|apply aw_1
 conv => whnf
 refine ⟨?_,trivial⟩
|apply s_1
 conv => whnf; arg 1; arg 4; arg 3; whnf
 refine ⟨?_,?_⟩
|exact trivial)
     all_goals first
      | exact zu (by omega)
      | exact zx hi
      | (refine za (j':=j - 1) (by omega) ⟨i + 1,by omega,Sub.live ⟨?_,rfl,rfl,rfl,trivial⟩ trivial⟩
         refine zAi ?_
         rw [zCY,hat]
         simp only [zAT,zBB,zAh,List.append_assoc])
      | (rw [hat]; (simp only [ByteArray.size_append,zAM,zAI,List.size_toArray,List.length_append,List.length_cons,List.length_nil,maxLen,Int.toNat_natCast,Nat.zero_add,Nat.reduceAdd]; omega))
      | (simp only [ByteArray.size_append,zAM,zAI,List.size_toArray,List.length_append,List.length_cons,List.length_nil,maxLen,Int.toNat_natCast,Nat.zero_add,Nat.reduceAdd]; omega)
      | (rw [htk]; exact zx hi)
      | skip
   . have f2 : decide ((i : Int) < ((d.f 4).l.length : Nat)) = false:=decide_eq_false (by omega)
     have ei : i = (d.f 4).l.length:=by omega
     subst ei
     repeat' (first
|apply zF
 . conv => lhs; whnf
 . assumption
|refine zA ?_
|refine zI ?_
|refine zZ ?_
|apply aw_1
 conv => whnf
 refine ⟨?_,trivial⟩
|apply s_1
 conv => whnf; arg 1; arg 4; arg 3; whnf
 refine ⟨?_,?_⟩
|refine zJ ?_
|refine zE rfl ?_
|refine zC ?_
|refine zB ?_
|refine ⟨_,by conv => lhs; whnf; arg 2; whnf,?_⟩; conv => rhs; whnf
|exact trivial)
     all_goals first
      | (refine zAi ?_; simp only [zAT,zBB,zAh,List.append_assoc]; done)
      | (simp only [ByteArray.size_append,zAM,zAI,List.size_toArray,List.length_append,List.length_cons,List.length_nil,maxLen,Int.toNat_natCast,Nat.zero_add,Nat.reduceAdd]; omega)
      | skip
 . have g3 : ((d.f 0).n == 3) = false:=by rw [h0]; rfl
   have g1 : ((d.f 0).n == 1) = false:=by rw [h0]; rfl
   have g2 : ((d.f 0).n == 2) = false:=by rw [h0]; rfl
   have g4 : ((d.f 0).n == 4) = true:=by rw [h0]; rfl
   have hwd : zBr (d.f 0).n ++ [32] = [101,110,117,109,32]:=by rw [h0]; rfl
   have hfc : fcT6 d = []:=by unfold fcT6; rw [if_neg (fun q => by omega)]
   obtain ⟨P,eP⟩ : ∃ P,[101,110,117,109,32] ++ tx (d.f 1).s = P:=⟨_,rfl⟩
   have e : dfT K6 d = P ++ zAr K6 (d.f 3).l ++ [32,123,10] ++ flatN (fun i => [32,32] ++ mbT6 K6 (gD (d.f 5).l i) ++ [10]) (d.f 5).l.length ++ [125,10]:=by
    unfold dfT hdS zCL
    rw [if_neg (by omega),hwd,hfc,List.append_nil,eP]
    rw [if_neg (by omega),if_pos h0]
    rfl
   rw [e] at zD |-
   simp only [List.length_append,List.length_cons,List.length_nil] at zD
   clear e hwd
   refine zV 139 Tryd.func22 rfl rfl rfl rfl ?_
   intro s w he
   repeat' (first
|apply zG
 . conv => lhs; whnf
 . assumption
|apply zF
 . conv => lhs; whnf
 . assumption
|refine zA ?_
|refine zI ?_
|refine zZ ?_
|apply aw_1
 conv => whnf
 refine ⟨?_,trivial⟩
|apply s_1
 conv => whnf; arg 1; arg 4; arg 3; whnf
 refine ⟨?_,?_⟩
|apply zAO rfl rfl rfl rfl
 . conv => lhs; whnf; arg 1; whnf
 . rfl
|exact trivial)
   all_goals first
    | (simp only [ByteArray.size_append,zAM,zAI,List.size_toArray,List.length_append,List.length_cons,List.length_nil,maxLen,Int.toNat_natCast,Nat.zero_add,Nat.reduceAdd]; omega)
    | skip
   refine zAA (Sub.own (t:=3) (e:=9) rfl rfl) ?_
   refine z7 (fun j st => ∃ i,i + j = (d.f 5).l.length /\ Sub (cx EN Tryd.prog s w he) st (HbL d P (fun i => mbT6 K6 (gD (d.f 5).l i)) 103 53 (d.f 5).l i)) (d.f 5).l.length ⟨0,by omega,Sub.live ⟨rfl,rfl,?_,rfl,rfl,rfl,trivial⟩ ⟨rfl,rfl,trivial⟩⟩ ?_
   . refine zAi ?_
     rw [<- eP]
     simp only [zAT,zBB,zAh,List.append_assoc]
   rintro j st ⟨i,hij,hs2⟩
   refine zAA hs2 ?_
   clear hs2
   have htk:=zAc (fun i => mbT6 K6 (gD (d.f 5).l i)) i
   by_cases hi : i < (d.f 5).l.length
   . have f1 : decide ((i : Int) < ((d.f 5).l.length : Nat)) = true:=decide_eq_true (by omega)
     have hbg:=zAa hi
     have hx:=h.mbs i hi
     have wm:=zy (gD (d.f 5).l i)
     have wm1:=zAd (gD (d.f 5).l i) 2
     simp only [sumN] at wm1
     have wm0:=zAv ((gD (d.f 5).l i).f 0)
     have wm2:=zAE ((gD (d.f 5).l i).f 1)
     have zc:=zA8 K6 ((gD (d.f 5).l i).f 1).l (((hw.f 5).l i).f 1).l
     have hc:=zDw (dok6 hx.dirs (((hw.f 5).l i).f 1).l (by omega))
     have mb_eq : bs (mbT6 K6 (gD (d.f 5).l i)) = ((gD (d.f 5).l i).f 0).s ++ bs (zAr K6 ((gD (d.f 5).l i).f 1).l):=by
      unfold mbT6; rw [<- zAk,zDf]
     repeat' (first
|apply zG
 . conv => lhs; whnf
 . assumption
|refine zA ?_
|refine zI ?_
|refine zZ ?_
|refine zW ?_
|apply aw_1
 conv => whnf
 refine ⟨?_,trivial⟩
|apply s_1
 conv => whnf; arg 1; arg 4; arg 3; whnf
 refine ⟨?_,?_⟩
|apply z8 rfl rfl rfl
 . conv => lhs; whnf
 . conv => lhs; whnf; arg 1; whnf
 . conv => lhs; whnf; arg 1; whnf
 . exact ⟨by kernel_rfl,by kernel_rfl⟩
 . rfl
|apply zq (by kernel_rfl) (by kernel_rfl)
|apply zAR
|apply zAQ rfl
 . conv => lhs; whnf
 . conv => lhs; whnf; arg 2; whnf
|apply zAU rfl
 . conv => lhs; whnf
 . conv => lhs; whnf
 . first | exact hc
|apply zD4 rfl rfl
 . conv => lhs; whnf
 . first | exact zo | (conv => lhs; whnf; arg 1; whnf)
 . first | exact fun _ => rfl | (intro _; kernel_rfl)
 . conv => lhs; whnf
 . rfl
 . rfl
 . conv => lhs; whnf; arg 1; whnf
 . conv => lhs; whnf
|apply zCO rfl rfl
 . conv => lhs; whnf
 . first | exact zo | (conv => lhs; whnf; arg 1; whnf)
 . conv => lhs; whnf; arg 1; whnf
 . rfl
 . rfl
|exact zR
|show zAC _ _ = true; rfl
|exact trivial)
     all_goals first
      | exact zu (by omega)
      | exact zx hi
      | exact zCA (by omega) (by omega)
      | (refine za (j':=j - 1) (by omega) ⟨i + 1,by omega,Sub.live ⟨rfl,?_,rfl,rfl,rfl,rfl,trivial⟩ ⟨rfl,?_,trivial⟩⟩
         . show V.own 3 _ (zAS _ i ++ [.str (((gD (d.f 5).l i).f 0).s ++ bs (zAr K6 ((gD (d.f 5).l i).f 1).l))]) = _
           rw [zAN]
           rw [mb_eq]
         . show some (Res.tok _ ((zAS _ i).length + 1)) = _
           rw [zAN,List.length_append]; rfl)
      | (simp only [ByteArray.size_append,zAM,zAI,List.size_toArray,List.length_append,List.length_cons,List.length_nil,maxLen,Int.toNat_natCast,Nat.zero_add,Nat.reduceAdd]; omega)
      | skip
   have f1 : decide ((i : Int) < ((d.f 5).l.length : Nat)) = false:=decide_eq_false (by omega)
   have ei : i = (d.f 5).l.length:=by omega
   subst ei
   repeat' (first
|apply zF
 . conv => lhs; whnf
 . assumption
|refine zA ?_
|refine zI ?_
|refine zZ ?_
|refine zW ?_
|apply aw_1
 conv => whnf
 refine ⟨?_,trivial⟩
|apply s_1
 conv => whnf; arg 1; arg 4; arg 3; whnf
 refine ⟨?_,?_⟩
|apply zk rfl
 . conv => lhs; whnf
 . conv => lhs; whnf
 . first | exact hT
|refine zJ ?_
|refine zE rfl ?_
|refine zC ?_
|exact trivial)
   all_goals first
    | (simp only [ByteArray.size_append,zAM,zAI,List.size_toArray,List.length_append,List.length_cons,List.length_nil,maxLen,Int.toNat_natCast,Nat.zero_add,Nat.reduceAdd]; omega)
    | skip
   refine z7 (fun j st => ∃ i,i + j = (d.f 5).l.length /\ Sub (cx EN Tryd.prog s w he) st (HbT (P ++ zAr K6 (d.f 3).l ++ [32,123,10]) (fun i => mbT6 K6 (gD (d.f 5).l i)) (d.f 5).l.length i)) (d.f 5).l.length ⟨0,by omega,Sub.live ⟨?_,rfl,?_,rfl,trivial⟩ trivial⟩ ?_
   . refine zAi ?_
     show _ = tx (bs (P ++ zAr K6 (d.f 3).l ++ [32,123,10] ++ []))
     simp only [zAT,zBB,zAh,List.append_nil]
   . show V.c (.int .i64 ((zAS _ _).length : Int)) = _
     rw [htk]
   rintro j st ⟨i,hij2,hs2⟩
   refine zAA hs2 ?_
   clear hs2
   by_cases hi : i < (d.f 5).l.length
   . have f2 : decide ((i : Int) < ((d.f 5).l.length : Nat)) = true:=decide_eq_true (by omega)
     have hpt:=zB6 (fun i => [32,32] ++ mbT6 K6 (gD (d.f 5).l i) ++ [10]) hi
     have hat:=zCR (fun i => mbT6 K6 (gD (d.f 5).l i)) hi
     try dsimp only at hpt
     try dsimp only at hat
     simp only [List.length_append,List.length_cons,List.length_nil] at hpt
     repeat' (first
|apply zG
 . conv => lhs; whnf
 . assumption
|refine zA ?_
|refine zI ?_
|refine zZ ?_
|refine zW ?_
|apply aw_1
 conv => whnf
 refine ⟨?_,trivial⟩
|apply s_1
 conv => whnf; arg 1; arg 4; arg 3; whnf
 refine ⟨?_,?_⟩
|exact trivial)
     all_goals first
      | exact zu (by omega)
      | exact zx hi
      | (refine za (j':=j - 1) (by omega) ⟨i + 1,by omega,Sub.live ⟨?_,rfl,rfl,rfl,trivial⟩ trivial⟩
         refine zAi ?_
         rw [zCY,hat]
         simp only [zAT,zBB,zAh,List.append_assoc])
      | (rw [hat]; (simp only [ByteArray.size_append,zAM,zAI,List.size_toArray,List.length_append,List.length_cons,List.length_nil,maxLen,Int.toNat_natCast,Nat.zero_add,Nat.reduceAdd]; omega))
      | (simp only [ByteArray.size_append,zAM,zAI,List.size_toArray,List.length_append,List.length_cons,List.length_nil,maxLen,Int.toNat_natCast,Nat.zero_add,Nat.reduceAdd]; omega)
      | (rw [htk]; exact zx hi)
      | skip
   . have f2 : decide ((i : Int) < ((d.f 5).l.length : Nat)) = false:=decide_eq_false (by omega)
     have ei : i = (d.f 5).l.length:=by omega
     subst ei
     repeat' (first
|apply zF
 . conv => lhs; whnf
 . assumption
|refine zA ?_
|refine zI ?_
|refine zZ ?_
|apply aw_1
 conv => whnf
 refine ⟨?_,trivial⟩
|apply s_1
 conv => whnf; arg 1; arg 4; arg 3; whnf
 refine ⟨?_,?_⟩
|refine zJ ?_
|refine zE rfl ?_
|refine zC ?_
|refine zB ?_
|refine ⟨_,by conv => lhs; whnf; arg 2; whnf,?_⟩; conv => rhs; whnf
|exact trivial)
     all_goals first
      | (refine zAi ?_; simp only [zAT,zBB,zAh,List.append_assoc]; done)
      | (simp only [ByteArray.size_append,zAM,zAI,List.size_toArray,List.length_append,List.length_cons,List.length_nil,maxLen,Int.toNat_natCast,Nat.zero_add,Nat.reduceAdd]; omega)
      | skip
 . have g3 : ((d.f 0).n == 3) = false:=by rw [h0]; rfl
   have g1 : ((d.f 0).n == 1) = false:=by rw [h0]; rfl
   have g2 : ((d.f 0).n == 2) = false:=by rw [h0]; rfl
   have g4 : ((d.f 0).n == 4) = false:=by rw [h0]; rfl
   have hwd : zBr (d.f 0).n ++ [32] = [105,110,112,117,116,32]:=by rw [h0]; rfl
   have hfc : fcT6 d = []:=by unfold fcT6; rw [if_neg (fun q => by omega)]
   obtain ⟨P,eP⟩ : ∃ P,[105,110,112,117,116,32] ++ tx (d.f 1).s = P:=⟨_,rfl⟩
   have e : dfT K6 d = P ++ zAr K6 (d.f 3).l ++ [32,123,10] ++ flatN (fun i => [32,32] ++ inB6 K6 (gD (d.f 6).l i) ++ [10]) (d.f 6).l.length ++ [125,10]:=by
    unfold dfT hdS zCL
    rw [if_neg (by omega),hwd,hfc,List.append_nil,eP]
    rw [if_pos h0]
    rfl
   rw [e] at zD |-
   simp only [List.length_append,List.length_cons,List.length_nil] at zD
   clear e hwd
   refine zV 139 Tryd.func22 rfl rfl rfl rfl ?_
   intro s w he
   repeat' (first
|apply zF
 . conv => lhs; whnf
 . assumption
|refine zA ?_
|refine zI ?_
|refine zZ ?_
|apply aw_1
 conv => whnf
 refine ⟨?_,trivial⟩
|apply s_1
 conv => whnf; arg 1; arg 4; arg 3; whnf
 refine ⟨?_,?_⟩
|apply zAO rfl rfl rfl rfl
 . conv => lhs; whnf; arg 1; whnf
 . rfl
|exact trivial)
   all_goals first
    | (simp only [ByteArray.size_append,zAM,zAI,List.size_toArray,List.length_append,List.length_cons,List.length_nil,maxLen,Int.toNat_natCast,Nat.zero_add,Nat.reduceAdd]; omega)
    | skip
   refine zAA (Sub.own (t:=3) (e:=9) rfl rfl) ?_
   refine z7 (fun j st => ∃ i,i + j = (d.f 6).l.length /\ Sub (cx EN Tryd.prog s w he) st (HbL d P (fun i => inB6 K6 (gD (d.f 6).l i)) 23 76 (d.f 6).l i)) (d.f 6).l.length ⟨0,by omega,Sub.live ⟨rfl,rfl,?_,rfl,rfl,rfl,trivial⟩ ⟨rfl,rfl,trivial⟩⟩ ?_
   . refine zAi ?_
     rw [<- eP]
     simp only [zAT,zBB,zAh,List.append_assoc]
   rintro j st ⟨i,hij,hs2⟩
   refine zAA hs2 ?_
   clear hs2
   have htk:=zAc (fun i => inB6 K6 (gD (d.f 6).l i)) i
   by_cases hi : i < (d.f 6).l.length
   . have f1 : decide ((i : Int) < ((d.f 6).l.length : Nat)) = true:=decide_eq_true (by omega)
     have hbg:=zAa hi
     have hc:=zGi (h.ins.ins i hi) ((hw.f 6).l i) (by omega)
     repeat' (first
|apply zG
 . conv => lhs; whnf
 . assumption
|refine zA ?_
|refine zI ?_
|refine zZ ?_
|refine zW ?_
|apply aw_1
 conv => whnf
 refine ⟨?_,trivial⟩
|apply s_1
 conv => whnf; arg 1; arg 4; arg 3; whnf
 refine ⟨?_,?_⟩
|apply zk rfl
 . conv => lhs; whnf
 . conv => lhs; whnf
 . first | exact hc
|apply z8 rfl rfl rfl
 . conv => lhs; whnf
 . conv => lhs; whnf; arg 1; whnf
 . conv => lhs; whnf; arg 1; whnf
 . exact ⟨by kernel_rfl,by kernel_rfl⟩
 . rfl
|apply zCM rfl rfl
 . conv => lhs; whnf
 . first | exact zo | (conv => lhs; whnf; arg 1; whnf)
 . first | exact fun _ => rfl | (intro _; kernel_rfl)
 . conv => lhs; whnf
 . conv => lhs; whnf; arg 1; whnf
 . conv => lhs; whnf
|apply zBC rfl rfl
 . conv => lhs; whnf
 . first | exact zo | (conv => lhs; whnf; arg 1; whnf)
 . conv => lhs; whnf; arg 1; whnf
 . rfl
 . rfl
|exact trivial)
     all_goals first
      | exact zu (by omega)
      | exact zx hi
      | exact zCA (by omega) (by omega)
      | (refine za (j':=j - 1) (by omega) ⟨i + 1,by omega,Sub.live ⟨rfl,?_,rfl,rfl,rfl,rfl,trivial⟩ ⟨rfl,?_,trivial⟩⟩
         . show V.own 3 _ (zAS _ i ++ [.str (bs (inB6 K6 (gD (d.f 6).l i)))]) = _
           rw [zAN]
           skip
         . show some (Res.tok _ ((zAS _ i).length + 1)) = _
           rw [zAN,List.length_append]; rfl)
      | (simp only [ByteArray.size_append,zAM,zAI,List.size_toArray,List.length_append,List.length_cons,List.length_nil,maxLen,Int.toNat_natCast,Nat.zero_add,Nat.reduceAdd]; omega)
      | skip
   have f1 : decide ((i : Int) < ((d.f 6).l.length : Nat)) = false:=decide_eq_false (by omega)
   have ei : i = (d.f 6).l.length:=by omega
   subst ei
   repeat' (first
|apply zF
 . conv => lhs; whnf
 . assumption
|refine zA ?_
|refine zI ?_
|refine zZ ?_
|refine zW ?_
|apply aw_1
 conv => whnf
 refine ⟨?_,trivial⟩
|apply s_1
 conv => whnf; arg 1; arg 4; arg 3; whnf
 refine ⟨?_,?_⟩
|apply zk rfl
 . conv => lhs; whnf
 . conv => lhs; whnf
 . first | exact hT
|refine zJ ?_
|refine zE rfl ?_
|refine zC ?_
|exact trivial)
   all_goals first
    | (simp only [ByteArray.size_append,zAM,zAI,List.size_toArray,List.length_append,List.length_cons,List.length_nil,maxLen,Int.toNat_natCast,Nat.zero_add,Nat.reduceAdd]; omega)
    | skip
   refine z7 (fun j st => ∃ i,i + j = (d.f 6).l.length /\ Sub (cx EN Tryd.prog s w he) st (HbT (P ++ zAr K6 (d.f 3).l ++ [32,123,10]) (fun i => inB6 K6 (gD (d.f 6).l i)) (d.f 6).l.length i)) (d.f 6).l.length ⟨0,by omega,Sub.live ⟨?_,rfl,?_,rfl,trivial⟩ trivial⟩ ?_
   . refine zAi ?_
     show _ = tx (bs (P ++ zAr K6 (d.f 3).l ++ [32,123,10] ++ []))
     simp only [zAT,zBB,zAh,List.append_nil]
   . show V.c (.int .i64 ((zAS _ _).length : Int)) = _
     rw [htk]
   rintro j st ⟨i,hij2,hs2⟩
   refine zAA hs2 ?_
   clear hs2
   by_cases hi : i < (d.f 6).l.length
   . have f2 : decide ((i : Int) < ((d.f 6).l.length : Nat)) = true:=decide_eq_true (by omega)
     have hpt:=zB6 (fun i => [32,32] ++ inB6 K6 (gD (d.f 6).l i) ++ [10]) hi
     have hat:=zCR (fun i => inB6 K6 (gD (d.f 6).l i)) hi
     try dsimp only at hpt
     try dsimp only at hat
     simp only [List.length_append,List.length_cons,List.length_nil] at hpt
     repeat' (first
|apply zG
 . conv => lhs; whnf
 . assumption
|refine zA ?_
|refine zI ?_
|refine zZ ?_
|refine zW ?_
|apply aw_1
 conv => whnf
 refine ⟨?_,trivial⟩
|apply s_1
 conv => whnf; arg 1; arg 4; arg 3; whnf
 refine ⟨?_,?_⟩
|exact trivial)
     all_goals first
      | exact zu (by omega)
      | exact zx hi
      | (refine za (j':=j - 1) (by omega) ⟨i + 1,by omega,Sub.live ⟨?_,rfl,rfl,rfl,trivial⟩ trivial⟩
         refine zAi ?_
         rw [zCY,hat]
         simp only [zAT,zBB,zAh,List.append_assoc])
      | (rw [hat]; (simp only [ByteArray.size_append,zAM,zAI,List.size_toArray,List.length_append,List.length_cons,List.length_nil,maxLen,Int.toNat_natCast,Nat.zero_add,Nat.reduceAdd]; omega))
      | (simp only [ByteArray.size_append,zAM,zAI,List.size_toArray,List.length_append,List.length_cons,List.length_nil,maxLen,Int.toNat_natCast,Nat.zero_add,Nat.reduceAdd]; omega)
      | (rw [htk]; exact zx hi)
      | skip
   . have f2 : decide ((i : Int) < ((d.f 6).l.length : Nat)) = false:=decide_eq_false (by omega)
     have ei : i = (d.f 6).l.length:=by omega
     subst ei
     repeat' (first
|apply zF
 . conv => lhs; whnf
 . assumption
|refine zA ?_
|refine zI ?_
|refine zZ ?_
|apply aw_1
 conv => whnf
 refine ⟨?_,trivial⟩
|apply s_1
 conv => whnf; arg 1; arg 4; arg 3; whnf
 refine ⟨?_,?_⟩
|refine zJ ?_
|refine zE rfl ?_
|refine zC ?_
|refine zB ?_
|refine ⟨_,by conv => lhs; whnf; arg 2; whnf,?_⟩; conv => rhs; whnf
|exact trivial)
     all_goals first
      | (refine zAi ?_; simp only [zAT,zBB,zAh,List.append_assoc]; done)
      | (simp only [ByteArray.size_append,zAM,zAI,List.size_toArray,List.length_append,List.length_cons,List.length_nil,maxLen,Int.toNat_natCast,Nat.zero_add,Nat.reduceAdd]; omega)
      | skip
end Go.Proofs.YtdlnnlglmifceaaDoor
namespace Go.Proofs.YtdlnnlglmifceaaDoor
open Go.RowKit
set_option linter.unusedSectionVars false
attribute [local irreducible] wpList Calls Code.wp AW AWo OpOk seqK zAf zAj loopK endK AC zAH Yld Sub
attribute [local irreducible] ACB ACX YldG absLexH
noncomputable def HpP6 (d : D) (i : Nat) : Vst 21:=stS 21 [(3,.own 3 9 (zAS (fun i => dfT K6 (gD (d.f 0).l i)) i)),(7,.sl 35 (d.f 0).l),(8,.c (.int .i64 ((d.f 0).l.length : Nat))),(9,.c (.int .i64 (i : Int)))] [(3,.tok 9 (zAS (fun i => dfT K6 (gD (d.f 0).l i)) i).length)]
theorem zDW {d : D} (h : ∀ i,i < (d.f 0).l.length -> DefP (gD (d.f 0).l i)) (hst : ∀ i,i < (d.f 0).l.length -> ∀ k,k < ((gD (d.f 0).l i).f 2).l.length -> ∃ s,gD ((gD (d.f 0).l i).f 2).l k = .str s) (hw : wideD d) (hb : bulkD d <= 1048576) : AC EN Tryd.prog 9 [.agg (cellsV Tryd.prog 12 24 d)] (.c (.string (bs (sdlT K6 (d.f 0).l)))):=by
 have w:=zy d
 have wf:=wD_f d 0
 have b0:=zAE (d.f 0); have l0:=zAe (d.f 0).l
 have z:=sdlT_len K6 (d.f 0).l (hw.f 0).l
 have hj:=zCX (zAS (fun i => dfT K6 (gD (d.f 0).l i)) (d.f 0).l.length) [10] (by rw [zAc]; omega) (by rw [zAx]; exact Nat.le_trans z (by omega))
 rw [zAx] at hj
 have hj : AC EN Tryd.prog 23 [.sl 9 (zAS (fun i => dfT K6 (gD (d.f 0).l i)) (d.f 0).l.length),.c (.string (bs [10]))] (.c (.string (bs (sdlT K6 (d.f 0).l)))):=hj
 refine zV 21 Tryd.func9 rfl rfl rfl rfl ?_
 intro s w he
 repeat' (first
|apply zG
 . conv => lhs; whnf
 . assumption
|apply zF
 . conv => lhs; whnf
 . assumption
|refine ze ?_
|refine zY ?_
|refine zAP ?_
|refine zA ?_
|refine zI ?_
|refine zZ ?_
|refine zW ?_
|refine zi ?_
|apply aw_1
 conv => whnf
 refine ⟨?_,trivial⟩
|apply s_1
 conv => whnf; arg 1; arg 4; arg 3; whnf
 refine ⟨?_,?_⟩
|apply zAF rfl
 . conv => lhs; whnf
 . conv => lhs; whnf; arg 2; whnf
|apply zk rfl
 . conv => lhs; whnf
 . conv => lhs; whnf
 . first | fail
|apply zAO rfl rfl rfl rfl
 . conv => lhs; whnf; arg 1; whnf
 . rfl
|apply zAV rfl rfl rfl rfl
 . conv => lhs; whnf; arg 1; whnf
 . rfl
|apply z8 rfl rfl rfl
 . conv => lhs; whnf
 . conv => lhs; whnf; arg 1; whnf
 . conv => lhs; whnf; arg 1; whnf
 . exact ⟨by kernel_rfl,by kernel_rfl⟩
 . rfl
|apply zCM rfl rfl
 . conv => lhs; whnf
 . first | (conv => lhs; whnf; arg 1; whnf)
 . first | exact fun _ => rfl | (intro _; kernel_rfl)
 . conv => lhs; whnf
 . conv => lhs; whnf; arg 1; whnf
 . conv => lhs; whnf
|apply zAu rfl rfl rfl rfl
 . first | (conv => lhs; whnf; arg 1; whnf)
 . first | exact fun _ => rfl | (intro _; kernel_rfl)
 . conv => lhs; whnf
 . conv => lhs; whnf
|apply zBu rfl rfl
 . conv => lhs; whnf
 . first | (conv => lhs; whnf; arg 1; whnf)
|apply zBC rfl rfl
 . conv => lhs; whnf
 . first | (conv => lhs; whnf; arg 1; whnf)
 . conv => lhs; whnf; arg 1; whnf
 . rfl
 . rfl
|apply zBO rfl rfl
 . conv => lhs; whnf
 . first | (conv => lhs; whnf; arg 1; whnf)
 . first | exact fun _ => rfl | (intro _; kernel_rfl)
 . conv => lhs; whnf
 . conv => lhs; whnf
|apply zS
 . conv => lhs; whnf; arg 1; arg 1; whnf
|apply zU
 . conv => lhs; whnf; arg 1; arg 1; whnf
|refine zd (by conv => lhs; whnf) ?_ ?_ <;> intro hb
|refine zv ?_
|refine zh ?_
|refine zJ ?_
|refine zK ?_
|refine zH ?_
|refine zE rfl ?_
|refine zM rfl ?_
|refine zL ?_
|refine zO ?_
|refine zC ?_
|refine zN ?_
|refine zAG ?_
|refine zB ?_
|refine ⟨_,by conv => lhs; whnf; arg 2; whnf,?_⟩; conv => rhs; whnf
|exact trivial
|intro hg)
 refine zAA (Sub.own (t:=3) (e:=9) rfl rfl) ?_
 refine z7 (fun j st => ∃ i,i + j = (d.f 0).l.length /\ Sub (cx EN Tryd.prog s w he) st (HpP6 d i)) (d.f 0).l.length ⟨0,by omega,Sub.live ⟨rfl,rfl,rfl,rfl,trivial⟩ ⟨rfl,trivial⟩⟩ ?_
 rintro j st ⟨i,hij,hs2⟩
 refine zAA hs2 ?_
 clear hs2
 have htk:=zAc (fun i => dfT K6 (gD (d.f 0).l i)) i
 by_cases hi : i < (d.f 0).l.length
 . have f1 : decide ((i : Int) < ((d.f 0).l.length : Nat)) = true:=decide_eq_true (by omega)
   have hbg:=zAa hi
   have hc:=blockP_ac (h i hi) ((hw.f 0).l i) (by omega) (hst i hi)
   repeat' (first
|apply zG
 . conv => lhs; whnf
 . assumption
|apply zF
 . conv => lhs; whnf
 . assumption
|refine ze ?_
|refine zY ?_
|refine zAP ?_
|refine zA ?_
|refine zI ?_
|refine zZ ?_
|refine zW ?_
|refine zi ?_
|apply aw_1
 conv => whnf
 refine ⟨?_,trivial⟩
|apply s_1
 conv => whnf; arg 1; arg 4; arg 3; whnf
 refine ⟨?_,?_⟩
|apply zAF rfl
 . conv => lhs; whnf
 . conv => lhs; whnf; arg 2; whnf
|apply zk rfl
 . conv => lhs; whnf
 . conv => lhs; whnf
 . first | exact hc
|apply zAO rfl rfl rfl rfl
 . conv => lhs; whnf; arg 1; whnf
 . rfl
|apply zAV rfl rfl rfl rfl
 . conv => lhs; whnf; arg 1; whnf
 . rfl
|apply z8 rfl rfl rfl
 . conv => lhs; whnf
 . conv => lhs; whnf; arg 1; whnf
 . conv => lhs; whnf; arg 1; whnf
 . exact ⟨by kernel_rfl,by kernel_rfl⟩
 . rfl
|apply zCM rfl rfl
 . conv => lhs; whnf
 . first | exact zo | (conv => lhs; whnf; arg 1; whnf)
 . first | exact fun _ => rfl | (intro _; kernel_rfl)
 . conv => lhs; whnf
 . conv => lhs; whnf; arg 1; whnf
 . conv => lhs; whnf
|apply zAu rfl rfl rfl rfl
 . first | exact zo | (conv => lhs; whnf; arg 1; whnf)
 . first | exact fun _ => rfl | (intro _; kernel_rfl)
 . conv => lhs; whnf
 . conv => lhs; whnf
|apply zBu rfl rfl
 . conv => lhs; whnf
 . first | exact zo | (conv => lhs; whnf; arg 1; whnf)
|apply zBC rfl rfl
 . conv => lhs; whnf
 . first | exact zo | (conv => lhs; whnf; arg 1; whnf)
 . conv => lhs; whnf; arg 1; whnf
 . rfl
 . rfl
|apply zBO rfl rfl
 . conv => lhs; whnf
 . first | exact zo | (conv => lhs; whnf; arg 1; whnf)
 . first | exact fun _ => rfl | (intro _; kernel_rfl)
 . conv => lhs; whnf
 . conv => lhs; whnf
|apply zS
 . conv => lhs; whnf; arg 1; arg 1; whnf
|apply zU
 . conv => lhs; whnf; arg 1; arg 1; whnf
|refine zd (by conv => lhs; whnf) ?_ ?_ <;> intro hb
|refine zv ?_
|refine zh ?_
|refine zJ ?_
|refine zK ?_
|refine zH ?_
|refine zE rfl ?_
|refine zM rfl ?_
|refine zL ?_
|refine zO ?_
|refine zC ?_
|refine zN ?_
|refine zAG ?_
|refine zB ?_
|refine ⟨_,by conv => lhs; whnf; arg 2; whnf,?_⟩; conv => rhs; whnf
|exact trivial
|intro hg)
   all_goals first
    | exact zu (by omega)
    | exact zx hi
    | exact zCA (by omega) (by omega)
    | (refine za (j':=j - 1) (by omega) ⟨i + 1,by omega,Sub.live ⟨?_,rfl,rfl,rfl,trivial⟩ ⟨?_,trivial⟩⟩
       . show V.own 3 _ (zAS _ i ++ [.str (bs (dfT K6 (gD (d.f 0).l i)))]) = _
         rw [zAN]
       . show some (Res.tok _ ((zAS _ i).length + 1)) = _
         rw [zAN,List.length_append]; rfl)
    | skip
 . have f1 : decide ((i : Int) < ((d.f 0).l.length : Nat)) = false:=decide_eq_false (by omega)
   have ei : i = (d.f 0).l.length:=by omega
   subst ei
   repeat' (first
|apply zG
 . conv => lhs; whnf
 . assumption
|apply zF
 . conv => lhs; whnf
 . assumption
|refine ze ?_
|refine zY ?_
|refine zAP ?_
|refine zA ?_
|refine zI ?_
|refine zZ ?_
|refine zW ?_
|refine zi ?_
|apply aw_1
 conv => whnf
 refine ⟨?_,trivial⟩
|apply s_1
 conv => whnf; arg 1; arg 4; arg 3; whnf
 refine ⟨?_,?_⟩
|apply zAF rfl
 . conv => lhs; whnf
 . conv => lhs; whnf; arg 2; whnf
|apply zk rfl
 . conv => lhs; whnf
 . conv => lhs; whnf
 . first | exact hj
|apply zAO rfl rfl rfl rfl
 . conv => lhs; whnf; arg 1; whnf
 . rfl
|apply zAV rfl rfl rfl rfl
 . conv => lhs; whnf; arg 1; whnf
 . rfl
|apply z8 rfl rfl rfl
 . conv => lhs; whnf
 . conv => lhs; whnf; arg 1; whnf
 . conv => lhs; whnf; arg 1; whnf
 . exact ⟨by kernel_rfl,by kernel_rfl⟩
 . rfl
|apply zCM rfl rfl
 . conv => lhs; whnf
 . first | exact zo | (conv => lhs; whnf; arg 1; whnf)
 . first | exact fun _ => rfl | (intro _; kernel_rfl)
 . conv => lhs; whnf
 . conv => lhs; whnf; arg 1; whnf
 . conv => lhs; whnf
|apply zAu rfl rfl rfl rfl
 . first | exact zo | (conv => lhs; whnf; arg 1; whnf)
 . first | exact fun _ => rfl | (intro _; kernel_rfl)
 . conv => lhs; whnf
 . conv => lhs; whnf
|apply zBu rfl rfl
 . conv => lhs; whnf
 . first | exact zo | (conv => lhs; whnf; arg 1; whnf)
|apply zBC rfl rfl
 . conv => lhs; whnf
 . first | exact zo | (conv => lhs; whnf; arg 1; whnf)
 . conv => lhs; whnf; arg 1; whnf
 . rfl
 . rfl
|apply zBO rfl rfl
 . conv => lhs; whnf
 . first | exact zo | (conv => lhs; whnf; arg 1; whnf)
 . first | exact fun _ => rfl | (intro _; kernel_rfl)
 . conv => lhs; whnf
 . conv => lhs; whnf
|apply zS
 . conv => lhs; whnf; arg 1; arg 1; whnf
|apply zU
 . conv => lhs; whnf; arg 1; arg 1; whnf
|refine zd (by conv => lhs; whnf) ?_ ?_ <;> intro hb
|refine zv ?_
|refine zh ?_
|refine zJ ?_
|refine zK ?_
|refine zH ?_
|refine zE rfl ?_
|refine zM rfl ?_
|refine zL ?_
|refine zO ?_
|refine zC ?_
|refine zN ?_
|refine zAG ?_
|refine zB ?_
|refine ⟨_,by conv => lhs; whnf; arg 2; whnf,?_⟩; conv => rhs; whnf
|exact trivial
|intro hg)
   all_goals first
    | rfl
    | skip
end Go.Proofs.YtdlnnlglmifceaaDoor
namespace Go.Proofs.YtdlnnlglmifceaaDoor
open Go.RowKit
set_option linter.unusedSectionVars false
def exF7 : D:=.obj [.str ⟨#[120]⟩,.list [],.obj [.str ⟨#[73,110,116]⟩,.list []],.list []]
def exD7 : D:=.obj [.int 1,.str ⟨#[84]⟩,.list [],.list [],.list [exF7],.list [],.list []]
def exC7 : D:=.obj [.list [exD7]]
def txD7 : D:=.obj [.int 3,.int 0,.str ⟨#[97]⟩,.list [],.list []]
theorem seq7t (s : ByteArray) : (s.toList == s.toList) = true:=by simp
theorem seq7k (s : ByteArray) (h : ((s.toList == s.toList) == true) = false) : False:=by simp at h
theorem seq7f (s : ByteArray) : (!(s.toList == s.toList)) = false:=by simp
attribute [local irreducible] wpList Calls Code.wp AW AWo OpOk seqK zAf zAj loopK endK AC zAH Yld Sub
attribute [local irreducible] ACB ACX YldG absLexH
noncomputable def HQDir (l : List D) (i : Nat) : Vst 32:=stS 32 [(1,.sl 64 l),(2,.c (.func (.func 27) #[] #[])),(15,.sl 64 l),(16,.c (.int .i64 (l.length : Nat))),(17,.c (.int .i64 (i : Int)))] []
theorem eqSDir (l : List D) (hn : l.length <= 100000000) (hg : ∀ i,i < l.length -> AC EN Tryd.prog 27 [.agg (cellsV Tryd.prog 12 64 (gD l i)),.agg (cellsV Tryd.prog 12 64 (gD l i))] (.c (.bool true))) : AC EN Tryd.prog 26 [.sl 64 l,.sl 64 l,.c (.func (.func 27) #[] #[])] (.c (.bool true)):=by
 have f0:=zF5 (l.length : Int)
 refine zV 32 Tryd.func26 rfl rfl rfl rfl ?_
 intro s w he
 repeat' (first
|apply zF
 . conv => lhs; whnf
 . assumption
|refine zA ?_
|refine zI ?_
|refine zZ ?_
|apply aw_1
 conv => whnf
 refine ⟨?_,trivial⟩
|apply s_1
 conv => whnf; arg 1; arg 4; arg 3; whnf
 refine ⟨?_,?_⟩
|exact trivial)
 refine z7 (fun j st => ∃ i,i + j = l.length /\ Sub (cx EN Tryd.prog s w he) st (HQDir l i)) l.length ⟨0,by omega,Sub.live ⟨rfl,rfl,rfl,rfl,rfl,trivial⟩ trivial⟩ ?_
 rintro j st ⟨i,hij,hs2⟩
 refine zAA hs2 ?_
 clear hs2
 by_cases hi : i < l.length
 . have f1 : decide ((i : Int) < (l.length : Nat)) = true:=decide_eq_true (by omega)
   have hc:=hg i hi
   have f3:=zDc
   repeat' (first
|apply zG
 . conv => lhs; whnf
 . assumption
|apply zF
 . conv => lhs; whnf
 . assumption
|refine zA ?_
|refine zI ?_
|refine zZ ?_
|refine zW ?_
|apply aw_1
 conv => whnf
 refine ⟨?_,trivial⟩
|apply s_1
 conv => whnf; arg 1; arg 4; arg 3; whnf
 refine ⟨?_,?_⟩
|apply zk rfl
 . conv => lhs; whnf
 . conv => lhs; whnf
 . first | exact hc
|apply z8 rfl rfl rfl
 . conv => lhs; whnf
 . conv => lhs; whnf; arg 1; whnf
 . conv => lhs; whnf; arg 1; whnf
 . exact ⟨by kernel_rfl,by kernel_rfl⟩
 . rfl
|exact trivial)
   all_goals first
    | exact zu (by omega)
    | exact zx hi
    | exact za (j':=j - 1) (by omega) ⟨i + 1,by omega,Sub.live ⟨rfl,rfl,rfl,rfl,rfl,trivial⟩ trivial⟩
    | skip
 . have f1 : decide ((i : Int) < (l.length : Nat)) = false:=decide_eq_false (by omega)
   repeat' (first
|apply zF
 . conv => lhs; whnf
 . assumption
|refine zA ?_
|refine zI ?_
|refine zZ ?_
|apply aw_1
 conv => whnf
 refine ⟨?_,trivial⟩
|apply s_1
 conv => whnf; arg 1; arg 4; arg 3; whnf
 refine ⟨?_,?_⟩
|refine zJ ?_
|refine zE rfl ?_
|refine zC ?_
|refine zB ?_
|refine ⟨_,by conv => lhs; whnf; arg 2; whnf,?_⟩; conv => rhs; whnf
|exact trivial)
noncomputable def HQInput (l : List D) (i : Nat) : Vst 32:=stS 32 [(1,.sl 76 l),(2,.c (.func (.func 35) #[] #[])),(15,.sl 76 l),(16,.c (.int .i64 (l.length : Nat))),(17,.c (.int .i64 (i : Int)))] []
theorem eqSInput (l : List D) (hn : l.length <= 100000000) (hg : ∀ i,i < l.length -> AC EN Tryd.prog 35 [.agg (cellsV Tryd.prog 12 76 (gD l i)),.agg (cellsV Tryd.prog 12 76 (gD l i))] (.c (.bool true))) : AC EN Tryd.prog 34 [.sl 76 l,.sl 76 l,.c (.func (.func 35) #[] #[])] (.c (.bool true)):=by
 have f0:=zF5 (l.length : Int)
 refine zV 32 Tryd.func34 rfl rfl rfl rfl ?_
 intro s w he
 repeat' (first
|apply zF
 . conv => lhs; whnf
 . assumption
|refine zA ?_
|refine zI ?_
|refine zZ ?_
|apply aw_1
 conv => whnf
 refine ⟨?_,trivial⟩
|apply s_1
 conv => whnf; arg 1; arg 4; arg 3; whnf
 refine ⟨?_,?_⟩
|exact trivial)
 refine z7 (fun j st => ∃ i,i + j = l.length /\ Sub (cx EN Tryd.prog s w he) st (HQInput l i)) l.length ⟨0,by omega,Sub.live ⟨rfl,rfl,rfl,rfl,rfl,trivial⟩ trivial⟩ ?_
 rintro j st ⟨i,hij,hs2⟩
 refine zAA hs2 ?_
 clear hs2
 by_cases hi : i < l.length
 . have f1 : decide ((i : Int) < (l.length : Nat)) = true:=decide_eq_true (by omega)
   have hc:=hg i hi
   have f3:=zDc
   repeat' (first
|apply zG
 . conv => lhs; whnf
 . assumption
|apply zF
 . conv => lhs; whnf
 . assumption
|refine zA ?_
|refine zI ?_
|refine zZ ?_
|refine zW ?_
|apply aw_1
 conv => whnf
 refine ⟨?_,trivial⟩
|apply s_1
 conv => whnf; arg 1; arg 4; arg 3; whnf
 refine ⟨?_,?_⟩
|apply zk rfl
 . conv => lhs; whnf
 . conv => lhs; whnf
 . first | exact hc
|apply z8 rfl rfl rfl
 . conv => lhs; whnf
 . conv => lhs; whnf; arg 1; whnf
 . conv => lhs; whnf; arg 1; whnf
 . exact ⟨by kernel_rfl,by kernel_rfl⟩
 . rfl
|exact trivial)
   all_goals first
    | exact zu (by omega)
    | exact zx hi
    | exact za (j':=j - 1) (by omega) ⟨i + 1,by omega,Sub.live ⟨rfl,rfl,rfl,rfl,rfl,trivial⟩ trivial⟩
    | skip
 . have f1 : decide ((i : Int) < (l.length : Nat)) = false:=decide_eq_false (by omega)
   repeat' (first
|apply zF
 . conv => lhs; whnf
 . assumption
|refine zA ?_
|refine zI ?_
|refine zZ ?_
|apply aw_1
 conv => whnf
 refine ⟨?_,trivial⟩
|apply s_1
 conv => whnf; arg 1; arg 4; arg 3; whnf
 refine ⟨?_,?_⟩
|refine zJ ?_
|refine zE rfl ?_
|refine zC ?_
|refine zB ?_
|refine ⟨_,by conv => lhs; whnf; arg 2; whnf,?_⟩; conv => rhs; whnf
|exact trivial)
noncomputable def HQMember (l : List D) (i : Nat) : Vst 32:=stS 32 [(1,.sl 53 l),(2,.c (.func (.func 19) #[] #[])),(15,.sl 53 l),(16,.c (.int .i64 (l.length : Nat))),(17,.c (.int .i64 (i : Int)))] []
theorem eqSMember (l : List D) (hn : l.length <= 100000000) (hg : ∀ i,i < l.length -> AC EN Tryd.prog 19 [.agg (cellsV Tryd.prog 12 53 (gD l i)),.agg (cellsV Tryd.prog 12 53 (gD l i))] (.c (.bool true))) : AC EN Tryd.prog 18 [.sl 53 l,.sl 53 l,.c (.func (.func 19) #[] #[])] (.c (.bool true)):=by
 have f0:=zF5 (l.length : Int)
 refine zV 32 Tryd.func18 rfl rfl rfl rfl ?_
 intro s w he
 repeat' (first
|apply zF
 . conv => lhs; whnf
 . assumption
|refine zA ?_
|refine zI ?_
|refine zZ ?_
|apply aw_1
 conv => whnf
 refine ⟨?_,trivial⟩
|apply s_1
 conv => whnf; arg 1; arg 4; arg 3; whnf
 refine ⟨?_,?_⟩
|exact trivial)
 refine z7 (fun j st => ∃ i,i + j = l.length /\ Sub (cx EN Tryd.prog s w he) st (HQMember l i)) l.length ⟨0,by omega,Sub.live ⟨rfl,rfl,rfl,rfl,rfl,trivial⟩ trivial⟩ ?_
 rintro j st ⟨i,hij,hs2⟩
 refine zAA hs2 ?_
 clear hs2
 by_cases hi : i < l.length
 . have f1 : decide ((i : Int) < (l.length : Nat)) = true:=decide_eq_true (by omega)
   have hc:=hg i hi
   have f3:=zDc
   repeat' (first
|apply zG
 . conv => lhs; whnf
 . assumption
|apply zF
 . conv => lhs; whnf
 . assumption
|refine zA ?_
|refine zI ?_
|refine zZ ?_
|refine zW ?_
|apply aw_1
 conv => whnf
 refine ⟨?_,trivial⟩
|apply s_1
 conv => whnf; arg 1; arg 4; arg 3; whnf
 refine ⟨?_,?_⟩
|apply zk rfl
 . conv => lhs; whnf
 . conv => lhs; whnf
 . first | exact hc
|apply z8 rfl rfl rfl
 . conv => lhs; whnf
 . conv => lhs; whnf; arg 1; whnf
 . conv => lhs; whnf; arg 1; whnf
 . exact ⟨by kernel_rfl,by kernel_rfl⟩
 . rfl
|exact trivial)
   all_goals first
    | exact zu (by omega)
    | exact zx hi
    | exact za (j':=j - 1) (by omega) ⟨i + 1,by omega,Sub.live ⟨rfl,rfl,rfl,rfl,rfl,trivial⟩ trivial⟩
    | skip
 . have f1 : decide ((i : Int) < (l.length : Nat)) = false:=decide_eq_false (by omega)
   repeat' (first
|apply zF
 . conv => lhs; whnf
 . assumption
|refine zA ?_
|refine zI ?_
|refine zZ ?_
|apply aw_1
 conv => whnf
 refine ⟨?_,trivial⟩
|apply s_1
 conv => whnf; arg 1; arg 4; arg 3; whnf
 refine ⟨?_,?_⟩
|refine zJ ?_
|refine zE rfl ?_
|refine zC ?_
|refine zB ?_
|refine ⟨_,by conv => lhs; whnf; arg 2; whnf,?_⟩; conv => rhs; whnf
|exact trivial)
noncomputable def HQField (l : List D) (i : Nat) : Vst 32:=stS 32 [(1,.sl 40 l),(2,.c (.func (.func 32) #[] #[])),(15,.sl 40 l),(16,.c (.int .i64 (l.length : Nat))),(17,.c (.int .i64 (i : Int)))] []
theorem eqSField (l : List D) (hn : l.length <= 100000000) (hg : ∀ i,i < l.length -> AC EN Tryd.prog 32 [.agg (cellsV Tryd.prog 12 40 (gD l i)),.agg (cellsV Tryd.prog 12 40 (gD l i))] (.c (.bool true))) : AC EN Tryd.prog 31 [.sl 40 l,.sl 40 l,.c (.func (.func 32) #[] #[])] (.c (.bool true)):=by
 have f0:=zF5 (l.length : Int)
 refine zV 32 Tryd.func31 rfl rfl rfl rfl ?_
 intro s w he
 repeat' (first
|apply zF
 . conv => lhs; whnf
 . assumption
|refine zA ?_
|refine zI ?_
|refine zZ ?_
|apply aw_1
 conv => whnf
 refine ⟨?_,trivial⟩
|apply s_1
 conv => whnf; arg 1; arg 4; arg 3; whnf
 refine ⟨?_,?_⟩
|exact trivial)
 refine z7 (fun j st => ∃ i,i + j = l.length /\ Sub (cx EN Tryd.prog s w he) st (HQField l i)) l.length ⟨0,by omega,Sub.live ⟨rfl,rfl,rfl,rfl,rfl,trivial⟩ trivial⟩ ?_
 rintro j st ⟨i,hij,hs2⟩
 refine zAA hs2 ?_
 clear hs2
 by_cases hi : i < l.length
 . have f1 : decide ((i : Int) < (l.length : Nat)) = true:=decide_eq_true (by omega)
   have hc:=hg i hi
   have f3:=zDc
   repeat' (first
|apply zG
 . conv => lhs; whnf
 . assumption
|apply zF
 . conv => lhs; whnf
 . assumption
|refine zA ?_
|refine zI ?_
|refine zZ ?_
|refine zW ?_
|apply aw_1
 conv => whnf
 refine ⟨?_,trivial⟩
|apply s_1
 conv => whnf; arg 1; arg 4; arg 3; whnf
 refine ⟨?_,?_⟩
|apply zk rfl
 . conv => lhs; whnf
 . conv => lhs; whnf
 . first | exact hc
|apply z8 rfl rfl rfl
 . conv => lhs; whnf
 . conv => lhs; whnf; arg 1; whnf
 . conv => lhs; whnf; arg 1; whnf
 . exact ⟨by kernel_rfl,by kernel_rfl⟩
 . rfl
|exact trivial)
   all_goals first
    | exact zu (by omega)
    | exact zx hi
    | exact za (j':=j - 1) (by omega) ⟨i + 1,by omega,Sub.live ⟨rfl,rfl,rfl,rfl,rfl,trivial⟩ trivial⟩
    | skip
 . have f1 : decide ((i : Int) < (l.length : Nat)) = false:=decide_eq_false (by omega)
   repeat' (first
|apply zF
 . conv => lhs; whnf
 . assumption
|refine zA ?_
|refine zI ?_
|refine zZ ?_
|apply aw_1
 conv => whnf
 refine ⟨?_,trivial⟩
|apply s_1
 conv => whnf; arg 1; arg 4; arg 3; whnf
 refine ⟨?_,?_⟩
|refine zJ ?_
|refine zE rfl ?_
|refine zC ?_
|refine zB ?_
|refine ⟨_,by conv => lhs; whnf; arg 2; whnf,?_⟩; conv => rhs; whnf
|exact trivial)
noncomputable def HQDef (l : List D) (i : Nat) : Vst 32:=stS 32 [(1,.sl 35 l),(2,.c (.func (.func 13) #[] #[])),(15,.sl 35 l),(16,.c (.int .i64 (l.length : Nat))),(17,.c (.int .i64 (i : Int)))] []
theorem eqSDef (l : List D) (hn : l.length <= 100000000) (hg : ∀ i,i < l.length -> AC EN Tryd.prog 13 [.agg (cellsV Tryd.prog 12 35 (gD l i)),.agg (cellsV Tryd.prog 12 35 (gD l i))] (.c (.bool true))) : AC EN Tryd.prog 12 [.sl 35 l,.sl 35 l,.c (.func (.func 13) #[] #[])] (.c (.bool true)):=by
 have f0:=zF5 (l.length : Int)
 refine zV 32 Tryd.func12 rfl rfl rfl rfl ?_
 intro s w he
 repeat' (first
|apply zF
 . conv => lhs; whnf
 . assumption
|refine zA ?_
|refine zI ?_
|refine zZ ?_
|apply aw_1
 conv => whnf
 refine ⟨?_,trivial⟩
|apply s_1
 conv => whnf; arg 1; arg 4; arg 3; whnf
 refine ⟨?_,?_⟩
|exact trivial)
 refine z7 (fun j st => ∃ i,i + j = l.length /\ Sub (cx EN Tryd.prog s w he) st (HQDef l i)) l.length ⟨0,by omega,Sub.live ⟨rfl,rfl,rfl,rfl,rfl,trivial⟩ trivial⟩ ?_
 rintro j st ⟨i,hij,hs2⟩
 refine zAA hs2 ?_
 clear hs2
 by_cases hi : i < l.length
 . have f1 : decide ((i : Int) < (l.length : Nat)) = true:=decide_eq_true (by omega)
   have hc:=hg i hi
   have f3:=zDc
   repeat' (first
|apply zG
 . conv => lhs; whnf
 . assumption
|apply zF
 . conv => lhs; whnf
 . assumption
|refine zA ?_
|refine zI ?_
|refine zZ ?_
|refine zW ?_
|apply aw_1
 conv => whnf
 refine ⟨?_,trivial⟩
|apply s_1
 conv => whnf; arg 1; arg 4; arg 3; whnf
 refine ⟨?_,?_⟩
|apply zk rfl
 . conv => lhs; whnf
 . conv => lhs; whnf
 . first | exact hc
|apply z8 rfl rfl rfl
 . conv => lhs; whnf
 . conv => lhs; whnf; arg 1; whnf
 . conv => lhs; whnf; arg 1; whnf
 . exact ⟨by kernel_rfl,by kernel_rfl⟩
 . rfl
|exact trivial)
   all_goals first
    | exact zu (by omega)
    | exact zx hi
    | exact za (j':=j - 1) (by omega) ⟨i + 1,by omega,Sub.live ⟨rfl,rfl,rfl,rfl,rfl,trivial⟩ trivial⟩
    | skip
 . have f1 : decide ((i : Int) < (l.length : Nat)) = false:=decide_eq_false (by omega)
   repeat' (first
|apply zF
 . conv => lhs; whnf
 . assumption
|refine zA ?_
|refine zI ?_
|refine zZ ?_
|apply aw_1
 conv => whnf
 refine ⟨?_,trivial⟩
|apply s_1
 conv => whnf; arg 1; arg 4; arg 3; whnf
 refine ⟨?_,?_⟩
|refine zJ ?_
|refine zE rfl ?_
|refine zC ?_
|refine zB ?_
|refine ⟨_,by conv => lhs; whnf; arg 2; whnf,?_⟩; conv => rhs; whnf
|exact trivial)
noncomputable def HeqNStr (l : List D) (i : Nat) : Vst 26:=stS 26 [(0,.sl 9 l),(1,.sl 9 l),(11,.sl 9 l),(12,.c (.int .i64 (l.length : Nat))),(13,.c (.int .i64 (i : Int)))] []
theorem eqNStr (l : List D) (hn : l.length <= 100000000) : AC EN Tryd.prog 14 [.sl 9 l,.sl 9 l] (.c (.bool true)):=by
 have f0:=zF5 (l.length : Int)
 refine zV 26 Tryd.func14 rfl rfl rfl rfl ?_
 intro s w he
 repeat' (first
|apply zF
 . conv => lhs; whnf
 . assumption
|refine zA ?_
|refine zI ?_
|refine zZ ?_
|apply aw_1
 conv => whnf
 refine ⟨?_,trivial⟩
|apply s_1
 conv => whnf; arg 1; arg 4; arg 3; whnf
 refine ⟨?_,?_⟩
|exact trivial)
 refine z7 (fun j st => ∃ i,i + j = l.length /\ Sub (cx EN Tryd.prog s w he) st (HeqNStr l i)) l.length ⟨0,by omega,Sub.live ⟨rfl,rfl,rfl,rfl,rfl,trivial⟩ trivial⟩ ?_
 rintro j st ⟨i,hij,hs2⟩
 refine zAA hs2 ?_
 clear hs2
 by_cases hi : i < l.length
 . have f1 : decide ((i : Int) < (l.length : Nat)) = true:=decide_eq_true (by omega)
   have f3:=eqs_f (gD l i).s
   repeat' (first
|apply zG
 . conv => lhs; whnf
 . assumption
|apply zF
 . conv => lhs; whnf
 . assumption
|refine zA ?_
|refine zI ?_
|refine zZ ?_
|refine zW ?_
|apply aw_1
 conv => whnf
 refine ⟨?_,trivial⟩
|apply s_1
 conv => whnf; arg 1; arg 4; arg 3; whnf
 refine ⟨?_,?_⟩
|apply zq (by kernel_rfl) (by kernel_rfl)
|apply zAR
|apply zAQ rfl
 . conv => lhs; whnf
 . conv => lhs; whnf; arg 2; whnf
|exact zR
|exact zX
|exact (1000000 : Nat)
|exact trivial)
   all_goals first
    | exact zu (by omega)
    | exact zx hi
    | exact za (j':=j - 1) (by omega) ⟨i + 1,by omega,Sub.live ⟨rfl,rfl,rfl,rfl,rfl,trivial⟩ trivial⟩
    | skip
 . have f1 : decide ((i : Int) < (l.length : Nat)) = false:=decide_eq_false (by omega)
   repeat' (first
|apply zF
 . conv => lhs; whnf
 . assumption
|refine zA ?_
|refine zI ?_
|refine zZ ?_
|apply aw_1
 conv => whnf
 refine ⟨?_,trivial⟩
|apply s_1
 conv => whnf; arg 1; arg 4; arg 3; whnf
 refine ⟨?_,?_⟩
|refine zJ ?_
|refine zE rfl ?_
|refine zC ?_
|refine zB ?_
|refine ⟨_,by conv => lhs; whnf; arg 2; whnf,?_⟩; conv => rhs; whnf
|exact trivial)
noncomputable def HeqNInt (l : List D) (i : Nat) : Vst 26:=stS 26 [(0,.sl 3 l),(1,.sl 3 l),(11,.sl 3 l),(12,.c (.int .i64 (l.length : Nat))),(13,.c (.int .i64 (i : Int)))] []
theorem eqNInt (l : List D) (hn : l.length <= 100000000) : AC EN Tryd.prog 54 [.sl 3 l,.sl 3 l] (.c (.bool true)):=by
 have f0:=zF5 (l.length : Int)
 refine zV 26 Tryd.func54 rfl rfl rfl rfl ?_
 intro s w he
 repeat' (first
|apply zF
 . conv => lhs; whnf
 . assumption
|refine zA ?_
|refine zI ?_
|refine zZ ?_
|apply aw_1
 conv => whnf
 refine ⟨?_,trivial⟩
|apply s_1
 conv => whnf; arg 1; arg 4; arg 3; whnf
 refine ⟨?_,?_⟩
|exact trivial)
 refine z7 (fun j st => ∃ i,i + j = l.length /\ Sub (cx EN Tryd.prog s w he) st (HeqNInt l i)) l.length ⟨0,by omega,Sub.live ⟨rfl,rfl,rfl,rfl,rfl,trivial⟩ trivial⟩ ?_
 rintro j st ⟨i,hij,hs2⟩
 refine zAA hs2 ?_
 clear hs2
 by_cases hi : i < l.length
 . have f1 : decide ((i : Int) < (l.length : Nat)) = true:=decide_eq_true (by omega)
   have f3:=zF5 (gD l i).n
   repeat' (first
|apply zG
 . conv => lhs; whnf
 . assumption
|apply zF
 . conv => lhs; whnf
 . assumption
|refine zA ?_
|refine zI ?_
|refine zZ ?_
|refine zW ?_
|apply aw_1
 conv => whnf
 refine ⟨?_,trivial⟩
|apply s_1
 conv => whnf; arg 1; arg 4; arg 3; whnf
 refine ⟨?_,?_⟩
|apply zq (by kernel_rfl) (by kernel_rfl)
|apply zAR
|apply zAQ rfl
 . conv => lhs; whnf
 . conv => lhs; whnf; arg 2; whnf
|exact zR
|exact zX
|exact (1000000 : Nat)
|exact trivial)
   all_goals first
    | exact zu (by omega)
    | exact zx hi
    | exact za (j':=j - 1) (by omega) ⟨i + 1,by omega,Sub.live ⟨rfl,rfl,rfl,rfl,rfl,trivial⟩ trivial⟩
    | skip
 . have f1 : decide ((i : Int) < (l.length : Nat)) = false:=decide_eq_false (by omega)
   repeat' (first
|apply zF
 . conv => lhs; whnf
 . assumption
|refine zA ?_
|refine zI ?_
|refine zZ ?_
|apply aw_1
 conv => whnf
 refine ⟨?_,trivial⟩
|apply s_1
 conv => whnf; arg 1; arg 4; arg 3; whnf
 refine ⟨?_,?_⟩
|refine zJ ?_
|refine zE rfl ?_
|refine zC ?_
|refine zB ?_
|refine ⟨_,by conv => lhs; whnf; arg 2; whnf,?_⟩; conv => rhs; whnf
|exact trivial)
theorem sdN : AC EN Tryd.prog 15 [.sl 64 [],.sl 64 []] (.c (.bool true)):=by
 have h1:=eqSDir [] (by decide) (fun i hi => absurd hi (Nat.not_lt_zero _))
 refine zV 8 Tryd.func15 rfl rfl rfl rfl ?_
 intro s w he
 repeat' (first
|refine zA ?_
|refine zI ?_
|refine zZ ?_
|apply aw_1
 conv => whnf
 refine ⟨?_,trivial⟩
|apply s_1
 conv => whnf; arg 1; arg 4; arg 3; whnf
 refine ⟨?_,?_⟩
|apply zk rfl
 . conv => lhs; whnf
 . conv => lhs; whnf
 . first | exact h1
|refine zB ?_
|refine ⟨_,by conv => lhs; whnf; arg 2; whnf,?_⟩; conv => rhs; whnf
|exact trivial)
 all_goals first
  | exact zu (by decide)
  | rfl
  | exact (show Tryd.prog.underlying 4 = some TypeDesc.bool by kernel_rfl)
  | skip
theorem siN : AC EN Tryd.prog 17 [.sl 76 [],.sl 76 []] (.c (.bool true)):=by
 have h1:=eqSInput [] (by decide) (fun i hi => absurd hi (Nat.not_lt_zero _))
 refine zV 8 Tryd.func17 rfl rfl rfl rfl ?_
 intro s w he
 repeat' (first
|refine zA ?_
|refine zI ?_
|refine zZ ?_
|apply aw_1
 conv => whnf
 refine ⟨?_,trivial⟩
|apply s_1
 conv => whnf; arg 1; arg 4; arg 3; whnf
 refine ⟨?_,?_⟩
|apply zk rfl
 . conv => lhs; whnf
 . conv => lhs; whnf
 . first | exact h1
|refine zB ?_
|refine ⟨_,by conv => lhs; whnf; arg 2; whnf,?_⟩; conv => rhs; whnf
|exact trivial)
 all_goals first
  | exact zu (by decide)
  | rfl
  | exact (show Tryd.prog.underlying 4 = some TypeDesc.bool by kernel_rfl)
  | skip
theorem srN : AC EN Tryd.prog 33 [.agg (cellsV Tryd.prog 12 38 (exF7.f 2)),.agg (cellsV Tryd.prog 12 38 (exF7.f 2))] (.c (.bool true)):=by
 have h1:=eqNInt ((exF7.f 2).f 1).l (by decide)
 have h0:=seq7t ((exF7.f 2).f 0).s
 have k1:=seq7k ((exF7.f 2).f 0).s
 refine zV 17 Tryd.func33 rfl rfl rfl rfl ?_
 intro s w he
 repeat' (first
|exact (k1 ‹_›).elim
|refine zA ?_
|refine zI ?_
|refine zZ ?_
|apply aw_1
 conv => whnf
 refine ⟨?_,trivial⟩
|apply zn rfl rfl
 . conv => lhs; whnf
 . conv => lhs; whnf
 . first | exact bT1 ‹_› | exact bT2 ‹_›
|apply s_1
 conv => whnf; arg 1; arg 4; arg 3; whnf
 refine ⟨?_,?_⟩
|apply zAO rfl rfl rfl rfl
 . conv => lhs; whnf; arg 1; whnf
 . rfl
|apply zQ rfl
 . conv => lhs; whnf
 . conv => lhs; whnf
 . first | rfl | assumption
 . conv => lhs; whnf; arg 2; whnf
|apply zP rfl
 . conv => lhs; whnf
 . conv => lhs; whnf
 . first | rfl | assumption
 . conv => lhs; whnf
 . first | exact h1
|apply zb rfl
 . conv => lhs; whnf
 . conv => lhs; whnf
 . conv => lhs; whnf; arg 2; whnf
|refine zB ?_
|refine ⟨_,by conv => lhs; whnf; arg 2; whnf,?_⟩; conv => rhs; whnf
|exact trivial
|intro hg)
 all_goals first
  | exact zu (by decide)
  | rfl
  | exact (show Tryd.prog.underlying 4 = some TypeDesc.bool by kernel_rfl)
  | skip
theorem sfC : AC EN Tryd.prog 32 [.agg (cellsV Tryd.prog 12 40 exF7),.agg (cellsV Tryd.prog 12 40 exF7)] (.c (.bool true)):=by
 have h0:=seq7t (exF7.f 0).s
 have k1:=seq7k (exF7.f 0).s
 refine zV 31 Tryd.func32 rfl rfl rfl rfl ?_
 intro s w he
 repeat' (first
|exact (k1 ‹_›).elim
|refine zA ?_
|refine zI ?_
|refine zZ ?_
|apply aw_1
 conv => whnf
 refine ⟨?_,trivial⟩
|apply zn rfl rfl
 . conv => lhs; whnf
 . conv => lhs; whnf
 . first | exact bT1 ‹_› | exact bT2 ‹_›
|apply s_1
 conv => whnf; arg 1; arg 4; arg 3; whnf
 refine ⟨?_,?_⟩
|apply zAO rfl rfl rfl rfl
 . conv => lhs; whnf; arg 1; whnf
 . rfl
|apply zQ rfl
 . conv => lhs; whnf
 . conv => lhs; whnf
 . first | rfl | assumption
 . conv => lhs; whnf; arg 2; whnf
|apply zP rfl
 . conv => lhs; whnf
 . conv => lhs; whnf
 . first | rfl | assumption
 . conv => lhs; whnf
 . first | exact srN | exact siN | exact sdN
|apply zb rfl
 . conv => lhs; whnf
 . conv => lhs; whnf
 . conv => lhs; whnf; arg 2; whnf
|refine zB ?_
|refine ⟨_,by conv => lhs; whnf; arg 2; whnf,?_⟩; conv => rhs; whnf
|exact trivial
|intro hg)
 all_goals first
  | exact zu (by decide)
  | rfl
  | exact (show Tryd.prog.underlying 4 = some TypeDesc.bool by kernel_rfl)
  | skip
theorem sfL : AC EN Tryd.prog 16 [.sl 40 [exF7],.sl 40 [exF7]] (.c (.bool true)):=by
 have h1:=eqSField [exF7] (by decide) (fun i hi => by
  have e : i = 0:=by have : i < 1:=hi; omega
  subst e
  exact sfC)
 refine zV 8 Tryd.func16 rfl rfl rfl rfl ?_
 intro s w he
 repeat' (first
|refine zA ?_
|refine zI ?_
|refine zZ ?_
|apply aw_1
 conv => whnf
 refine ⟨?_,trivial⟩
|apply s_1
 conv => whnf; arg 1; arg 4; arg 3; whnf
 refine ⟨?_,?_⟩
|apply zk rfl
 . conv => lhs; whnf
 . conv => lhs; whnf
 . first | exact h1
|refine zB ?_
|refine ⟨_,by conv => lhs; whnf; arg 2; whnf,?_⟩; conv => rhs; whnf
|exact trivial)
 all_goals first
  | exact zu (by decide)
  | rfl
  | exact (show Tryd.prog.underlying 4 = some TypeDesc.bool by kernel_rfl)
  | skip
theorem sdC : AC EN Tryd.prog 13 [.agg (cellsV Tryd.prog 12 35 exD7),.agg (cellsV Tryd.prog 12 35 exD7)] (.c (.bool true)):=by
 have h0:=zF5 (exD7.f 0).n
 have h1:=seq7f (exD7.f 1).s
 have k1:=eqs_k (exD7.f 1).s
 have k2:=eqn_k (exD7.f 0).n
 have h2:=eqNStr (exD7.f 2).l (by decide)
 have h3:=eqSMember [] (by decide) (fun i hi => absurd hi (Nat.not_lt_zero _))
 have f3:=zDc
 refine zV 52 Tryd.func13 rfl rfl rfl rfl ?_
 intro s w he
 repeat' (first
|apply zF
 . conv => lhs; whnf
 . assumption
|exact (k1 ‹_›).elim
|refine zA ?_
|refine zI ?_
|refine zZ ?_
|apply aw_1
 conv => whnf
 refine ⟨?_,trivial⟩
|apply zn rfl rfl
 . conv => lhs; whnf
 . conv => lhs; whnf
 . first | exact bT1 ‹_› | exact bT2 ‹_›
|apply zl rfl rfl
 . conv => lhs; whnf
 . conv => lhs; whnf
 . first | exact bF1 ‹_› | exact bF2 ‹_›
|apply s_1
 conv => whnf; arg 1; arg 4; arg 3; whnf
 refine ⟨?_,?_⟩
|apply zk rfl
 . conv => lhs; whnf
 . conv => lhs; whnf
 . first | exact h2 | exact sdN | exact sfL | exact siN | exact h3
|apply zAO rfl rfl rfl rfl
 . conv => lhs; whnf; arg 1; whnf
 . rfl
|apply zQ rfl
 . conv => lhs; whnf
 . conv => lhs; whnf
 . first | rfl | assumption
 . conv => lhs; whnf; arg 2; whnf
|apply zP rfl
 . conv => lhs; whnf
 . conv => lhs; whnf
 . first | rfl | assumption
 . conv => lhs; whnf
 . first | exact h2 | exact sdN | exact sfL | exact siN | exact h3
|apply zb rfl
 . conv => lhs; whnf
 . conv => lhs; whnf
 . conv => lhs; whnf; arg 2; whnf
|refine zB ?_
|refine ⟨_,by conv => lhs; whnf; arg 2; whnf,?_⟩; conv => rhs; whnf
|exact trivial
|intro hg)
 all_goals first
  | exact zu (by decide)
  | rfl
  | exact (show Tryd.prog.underlying 4 = some TypeDesc.bool by kernel_rfl)
  | skip
theorem sameEx : AC EN Tryd.prog 6 [.agg (cellsV Tryd.prog 12 24 exC7),.agg (cellsV Tryd.prog 12 24 exC7)] (.c (.bool true)):=by
 have h1:=eqSDef [exD7] (by decide) (fun i hi => by
  have e : i = 0:=by have : i < 1:=hi; omega
  subst e
  exact sdC)
 refine zV 10 Tryd.func6 rfl rfl rfl rfl ?_
 intro s w he
 repeat' (first
|refine zA ?_
|refine zI ?_
|refine zZ ?_
|apply aw_1
 conv => whnf
 refine ⟨?_,trivial⟩
|apply s_1
 conv => whnf; arg 1; arg 4; arg 3; whnf
 refine ⟨?_,?_⟩
|apply zk rfl
 . conv => lhs; whnf
 . conv => lhs; whnf
 . first | exact h1
|apply zAO rfl rfl rfl rfl
 . conv => lhs; whnf; arg 1; whnf
 . rfl
|refine zB ?_
|refine ⟨_,by conv => lhs; whnf; arg 2; whnf,?_⟩; conv => rhs; whnf
|exact trivial)
 all_goals first
  | exact zu (by decide)
  | rfl
  | exact (show Tryd.prog.underlying 4 = some TypeDesc.bool by kernel_rfl)
  | skip
end Go.Proofs.YtdlnnlglmifceaaDoor
namespace Go.Proofs.YtdlnnlglmifceaaDoor
open Go.RowKit
attribute [local irreducible] wpList Calls Code.wp
def sg0 (W : World) : Sg:=⟨fun b o => (W.cell? ⟨b,o,none⟩).isSome,fun _ => none,fun _ => none,fun _ => (undef,0)⟩
theorem relL2 {P : Program} {s : Sg} {w : World} {v v2 : V} {u u2 : Value} (h : rel P s w v u) (h2 : rel P s w v2 u2) : relL P s w [v,v2] (#[u,u2] : Array Value).toList:=by
 show relL P s w [v,v2] [u,u2]
 rw [relL,relL]; exact ⟨h,h2,by simp [relL]⟩
end Go.Proofs.YtdlnnlglmifceaaDoor
namespace Go.Proofs.YtdlnnlglmifceaaDoor
open Go.RowKit
set_option linter.unusedSectionVars false
theorem exC7_right : docY litR (exC7.f 0).l = true:=by kernel_rfl
theorem exC7_wide : wideD exC7:=by
 simp [exC7,exD7,exF7,wideD,wideL,i64D]
theorem exC7_bulk : bulkD exC7 <= 1048576:=of_decide_eq_true (by kernel_rfl)
attribute [local irreducible] wpList Calls Code.wp AW AWo OpOk seqK zAf zAj loopK endK AC zAH Yld Sub
attribute [local irreducible] ACB ACX YldG absLexH
theorem text7_ac : AC EN Tryd.prog 11 [.c (.string ⟨#[97]⟩)] (.agg (cellsV Tryd.prog 12 44 txD7)):=by
 refine AC.res (r:=.agg [.c (.int .i64 3),.c (.int .i64 0),.c (.string ⟨#[97]⟩),.c (.slice none 0 0),.c (.slice none 0 0)]) ?_ (VLe.agg (VLeL.cons (VLe.refl _) (VLeL.cons (VLe.refl _) (VLeL.cons (VLe.refl _) (VLeL.cons (VLe.nil _) (VLeL.cons (VLe.nil _) VLeL.nil))))))
 refine zV 5 Tryd.func11 rfl rfl rfl rfl ?_
 intro s w he
 repeat' (first
|refine zA ?_
|refine zI ?_
|refine zZ ?_
|refine zW ?_
|refine zi ?_
|apply aw_1
 conv => whnf
 refine ⟨?_,trivial⟩
|apply s_1
 conv => whnf; arg 1; arg 4; arg 3; whnf
 refine ⟨?_,?_⟩
|apply zAF rfl
 . conv => lhs; whnf
 . conv => lhs; whnf; arg 2; whnf
|apply zAV rfl rfl rfl rfl
 . conv => lhs; whnf; arg 1; whnf
 . rfl
|apply z8 rfl rfl rfl
 . conv => lhs; whnf
 . conv => lhs; whnf; arg 1; whnf
 . conv => lhs; whnf; arg 1; whnf
 . exact ⟨by kernel_rfl,by kernel_rfl⟩
 . rfl
|apply zS
 . conv => lhs; whnf; arg 1; arg 1; whnf
|apply zU
 . conv => lhs; whnf; arg 1; arg 1; whnf
|refine zd (by conv => lhs; whnf) ?_ ?_ <;> intro hb
|refine zv ?_
|refine zh ?_
|refine zJ ?_
|refine zK ?_
|refine zH ?_
|refine zE rfl ?_
|refine zM rfl ?_
|refine zL ?_
|refine zO ?_
|refine zC ?_
|refine zN ?_
|refine zAG ?_
|refine zB ?_
|refine ⟨_,by conv => lhs; whnf; arg 2; whnf,?_⟩; conv => rhs; whnf
|exact trivial
|intro hg)
 rfl
theorem exam7_ac : AC EN Tryd.prog 5 [] (.c (.bool true)):=by
 have h1:=zDW (d:=exC7) (fun i hi => (docP exC7_right).2.2 i hi) (fun i hi => by
  have e : i = 0:=by have : i < 1:=hi; omega
  subst e
  intro k hk
  exact absurd hk (Nat.not_lt_zero _)) exC7_wide exC7_bulk
 have h2:=sameEx
 have h3:=text7_ac
 have h4:=zC0 20 txD7 (zBS 20 _ (of_decide_eq_true (by kernel_rfl))) (by simp [txD7,wideD,wideL,i64D]) (by exact ⟨fun q => (by cases q),fun j hj => absurd hj (Nat.not_lt_zero _)⟩) (of_decide_eq_true (by kernel_rfl))
 have e1 : bs (sdlT K6 (exC7.f 0).l) = ⟨#[116,121,112,101,32,84,32,123,10,32,32,120,58,32,73,110,116,10,125,10]⟩:=by kernel_rfl
 have e2 : bs (valT 20 txD7) = ⟨#[34,97,34]⟩:=by kernel_rfl
 rw [e1] at h1
 rw [e2] at h4
 have g1:=seq7t ⟨#[116,121,112,101,32,84,32,123,10,32,32,120,58,32,73,110,116,10,125,10]⟩
 have g2:=seq7t ⟨#[34,97,34]⟩
 have k1:=seq7k ⟨#[116,121,112,101,32,84,32,123,10,32,32,120,58,32,73,110,116,10,125,10]⟩
 refine zV 21 Tryd.func5 rfl rfl rfl rfl ?_
 intro s w he
 repeat' (first
|apply s_valW (.agg (cellsV Tryd.prog 12 40 exF7)) rfl rfl
 . conv => lhs; whnf; arg 2; whnf
 . repeat' (first | exact VLe.refl _ | exact VLe.nil _ | exact VLe.lit _ _ | exact VLe.own _ _ _ | apply VLe.agg | apply VLeL.cons | exact VLeL.nil)
|apply s_valW (.agg (cellsV Tryd.prog 12 35 exD7)) rfl rfl
 . conv => lhs; whnf; arg 2; whnf
 . repeat' (first | exact VLe.refl _ | exact VLe.nil _ | exact VLe.lit _ _ | exact VLe.own _ _ _ | apply VLe.agg | apply VLeL.cons | exact VLeL.nil)
|apply s_valW (.agg (cellsV Tryd.prog 12 24 exC7)) rfl rfl
 . conv => lhs; whnf; arg 2; whnf
 . repeat' (first | exact VLe.refl _ | exact VLe.nil _ | exact VLe.lit _ _ | exact VLe.own _ _ _ | apply VLe.agg | apply VLeL.cons | exact VLeL.nil)
|apply s_lit [exF7] rfl rfl
 . conv => lhs; whnf
 . first | (conv => lhs; whnf; arg 1; whnf)
 . rfl
 . rfl
 . repeat' (first | exact trivial | apply And.intro | rfl)
|apply s_lit [exD7] rfl rfl
 . conv => lhs; whnf
 . first | (conv => lhs; whnf; arg 1; whnf)
 . rfl
 . rfl
 . repeat' (first | exact trivial | apply And.intro | rfl)
|apply s_wanted_pick_t rfl rfl rfl
 . conv => lhs; whnf
 . first | rfl | assumption
 . conv => lhs; whnf
 . first | exact bT1 ‹_› | exact bT2 ‹_› | rfl
|apply zAK rfl rfl rfl
 . conv => lhs; whnf
 . first | rfl | assumption
 . conv => lhs; whnf
 . first | exact bT1 ‹_› | exact bT2 ‹_› | rfl
|apply s_wanted_pick_f rfl rfl rfl
 . conv => lhs; whnf
 . first | rfl | assumption
 . conv => lhs; whnf
 . first | exact bF1 ‹_› | exact bF2 ‹_› | rfl
|apply zAL rfl rfl rfl
 . conv => lhs; whnf
 . first | rfl | assumption
 . conv => lhs; whnf
 . first | exact bF1 ‹_› | exact bF2 ‹_› | rfl
|apply zG
 . conv => lhs; whnf
 . assumption
|apply zF
 . conv => lhs; whnf
 . assumption
|exact (k1 ‹_›).elim
|refine ze ?_
|refine zY ?_
|refine zAP ?_
|refine zA ?_
|refine zI ?_
|refine zZ ?_
|refine zW ?_
|refine zi ?_
|apply aw_1
 conv => whnf
 refine ⟨?_,trivial⟩
|apply zn rfl rfl
 . conv => lhs; whnf
 . conv => lhs; whnf
 . first | exact bT1 ‹_› | exact bT2 ‹_›
|apply zl rfl rfl
 . conv => lhs; whnf
 . conv => lhs; whnf
 . first | exact bF1 ‹_› | exact bF2 ‹_›
|apply s_1
 conv => whnf; arg 1; arg 4; arg 3; whnf
 refine ⟨?_,?_⟩
|apply zAF rfl
 . conv => lhs; whnf
 . conv => lhs; whnf; arg 2; whnf
|apply zk rfl
 . conv => lhs; whnf
 . conv => lhs; whnf
 . first | exact h1 | exact h2 | exact h3 | exact h4
|apply zAV rfl rfl rfl rfl
 . conv => lhs; whnf; arg 1; whnf
 . rfl
|apply z8 rfl rfl rfl
 . conv => lhs; whnf
 . conv => lhs; whnf; arg 1; whnf
 . conv => lhs; whnf; arg 1; whnf
 . exact ⟨by kernel_rfl,by kernel_rfl⟩
 . rfl
|apply zBu rfl rfl
 . conv => lhs; whnf
 . first | (conv => lhs; whnf; arg 1; whnf)
|apply zBC rfl rfl
 . conv => lhs; whnf
 . first | (conv => lhs; whnf; arg 1; whnf)
 . conv => lhs; whnf; arg 1; whnf
 . rfl
 . rfl
|apply zQ rfl
 . conv => lhs; whnf
 . conv => lhs; whnf
 . first | rfl | assumption
 . conv => lhs; whnf; arg 2; whnf
|apply zP rfl
 . conv => lhs; whnf
 . conv => lhs; whnf
 . first | rfl | assumption
 . conv => lhs; whnf
 . first | exact h1 | exact h2 | exact h3 | exact h4
|apply zAB rfl
 . conv => lhs; whnf
 . conv => lhs; whnf
 . first | rfl | assumption
|apply zAm rfl
 . conv => lhs; whnf
 . rfl
 . rfl
|apply zb rfl
 . conv => lhs; whnf
 . conv => lhs; whnf
 . conv => lhs; whnf; arg 2; whnf
|apply zt rfl
 . conv => lhs; whnf
 . conv => lhs; whnf
 . conv => lhs; whnf
 . first | exact h1 | exact h2 | exact h3 | exact h4
|apply zm rfl
 . conv => lhs; whnf
 . conv => lhs; whnf
 . conv => lhs; whnf; arg 2; whnf
|apply zg rfl
 . conv => lhs; whnf
 . conv => lhs; whnf
 . conv => lhs; whnf
 . first | exact h1 | exact h2 | exact h3 | exact h4
|apply zS
 . conv => lhs; whnf; arg 1; arg 1; whnf
|apply zU
 . conv => lhs; whnf; arg 1; arg 1; whnf
|refine zd (by conv => lhs; whnf) ?_ ?_ <;> intro hb
|refine zv ?_
|refine zh ?_
|refine zJ ?_
|refine zK ?_
|refine zH ?_
|refine zE rfl ?_
|refine zM rfl ?_
|refine zL ?_
|refine zO ?_
|refine zC ?_
|refine zN ?_
|refine zAG ?_
|refine zB ?_
|refine ⟨_,by conv => lhs; whnf; arg 2; whnf,?_⟩; conv => rhs; whnf
|exact trivial
|intro hg)
 all_goals first
  | rfl
  | (rw [g2]; done)
  | (rw [g2]; rfl)
  | skip
end Go.Proofs.YtdlnnlglmifceaaDoor
namespace Go.Proofs.YtdlnnlglmifceaaDoor
open Go.RowKit
set_option linter.unusedSectionVars false
def fC7 (x : D) : Nat:=(x.f 1).l.length + (x.f 3).l.length
def dC7 (t : D) : Nat:=1 + (t.f 4).l.length + (t.f 5).l.length + (t.f 6).l.length + (t.f 3).l.length + (t.f 2).l.length
def fS7 (t : D) (k : Nat) : Nat:=sumN (fun k => fC7 (gD (t.f 4).l k)) k
def dS7 (t : D) : Nat:=dC7 t + fS7 t (t.f 4).l.length
def lS7 (l : List D) (i : Nat) : Nat:=sumN (fun i => dS7 (gD l i)) i
theorem fC7_le (x : D) : fC7 x <= bulkD x:=by
 have w:=zy x
 have wf:=zAd x 4
 simp only [sumN] at wf
 have a:=zAE (x.f 1); have a':=zAe (x.f 1).l
 have b:=zAE (x.f 3); have b':=zAe (x.f 3).l
 unfold fC7; omega
theorem fS7_le (t : D) {k : Nat} (h : k <= (t.f 4).l.length) : fS7 t k <= bulkL (t.f 4).l:=by
 rw [zAy]
 exact Nat.le_trans (zCQ fun i _ => fC7_le _) (zA5 _ h)
theorem dC7_le (t : D) : dC7 t + bulkL (t.f 4).l <= 2 * bulkD t:=by
 have w:=zy t
 have wf:=zAd t 7
 simp only [sumN] at wf
 have a2:=zAE (t.f 2); have b2:=zAe (t.f 2).l
 have a3:=zAE (t.f 3); have b3:=zAe (t.f 3).l
 have a4:=zAE (t.f 4); have b4:=zAe (t.f 4).l
 have a5:=zAE (t.f 5); have b5:=zAe (t.f 5).l
 have a6:=zAE (t.f 6); have b6:=zAe (t.f 6).l
 unfold dC7; omega
theorem dS7_le (t : D) : dS7 t <= 2 * bulkD t:=by
 have:=dC7_le t
 have:=fS7_le t (Nat.le_refl _)
 unfold dS7; omega
theorem lS7_le (l : List D) {i : Nat} (h : i <= l.length) : lS7 l i <= 2 * bulkL l:=by
 rw [zAy,<- zBU]
 exact Nat.le_trans (zCQ fun i _ => dS7_le _) (zA5 _ h)
def zEQ (l : List D) : Bool:=decide (70 < l.length) || decide ((lS7 l l.length : Int) > 1000)
theorem zHL {a b : Int} (h : a = b) : V.c (.int .i64 a) = V.c (.int .i64 b):=by rw [h]
attribute [local irreducible] wpList Calls Code.wp AW AWo OpOk seqK zAf zAj loopK endK AC zAH Yld Sub
attribute [local irreducible] ACB ACX YldG absLexH
noncomputable def HL7 (d : D) (n : Int) (i : Nat) : Vst 71:=stS 71 [(1,.bx 1 0),(3,.c (.int .i64 n)),(4,.c (.int .i64 (i : Int)))] [(1,.box 24 (cellsV Tryd.prog 12 24 d))]
noncomputable def HM7 (d t : D) (n : Int) (i k : Nat) : Vst 71:=stS 71 [(1,.bx 1 0),(3,.c (.int .i64 n)),(4,.c (.int .i64 (i : Int))),(5,.bx 5 0),(6,.c (.int .i64 (k : Int)))] [(1,.box 24 (cellsV Tryd.prog 12 24 d)),(5,.box 35 (cellsV Tryd.prog 12 35 t))]
theorem zGe (d : D) (hb : bulkD d <= 1048576) : AC EN Tryd.prog 4 [.agg (cellsV Tryd.prog 12 24 d)] (.c (.bool (zEQ (d.f 0).l))):=by
 have w:=zy d
 have wf:=wD_f d 0
 have b0:=zAE (d.f 0); have l0:=zAe (d.f 0).l
 by_cases h7 : 70 < (d.f 0).l.length
 . have f1 : decide (((d.f 0).l.length : Int) > 70) = true:=decide_eq_true (by omega)
   rw [show zEQ (d.f 0).l = true by unfold zEQ; rw [decide_eq_true h7]; rfl]
   refine zV 71 Tryd.func4 rfl rfl rfl rfl ?_
   intro s w he
   repeat' (first
|apply zG
 . conv => lhs; whnf
 . assumption
|apply zF
 . conv => lhs; whnf
 . assumption
|refine ze ?_
|refine zY ?_
|refine zAP ?_
|refine zA ?_
|refine zI ?_
|refine zZ ?_
|refine zW ?_
|refine zi ?_
|apply aw_1
 conv => whnf
 refine ⟨?_,trivial⟩
|apply s_1
 conv => whnf; arg 1; arg 4; arg 3; whnf
 refine ⟨?_,?_⟩
|apply zAF rfl
 . conv => lhs; whnf
 . conv => lhs; whnf; arg 2; whnf
|apply zAO rfl rfl rfl rfl
 . conv => lhs; whnf; arg 1; whnf
 . rfl
|apply zAV rfl rfl rfl rfl
 . conv => lhs; whnf; arg 1; whnf
 . rfl
|apply z8 rfl rfl rfl
 . conv => lhs; whnf
 . conv => lhs; whnf; arg 1; whnf
 . conv => lhs; whnf; arg 1; whnf
 . exact ⟨by kernel_rfl,by kernel_rfl⟩
 . rfl
|apply zq (by kernel_rfl) (by kernel_rfl)
|apply zAR
|apply zAQ rfl
 . conv => lhs; whnf
 . conv => lhs; whnf; arg 2; whnf
|apply zAl rfl rfl rfl
 . conv => lhs; whnf
 . rfl
 . rfl
 . conv => lhs; whnf; arg 1; whnf
 . conv => lhs; whnf; arg 1; whnf
 . exact ⟨by kernel_rfl,by kernel_rfl⟩
 . rfl
|exact zR
|exact zX
|exact all_nil
|show List.all _ _ = true; rfl
|show zAC _ _ = true; rfl
|exact ([] : List Nat)
|exact (1000000 : Nat)
|apply zS
 . conv => lhs; whnf; arg 1; arg 1; whnf
|apply zU
 . conv => lhs; whnf; arg 1; arg 1; whnf
|refine zd (by conv => lhs; whnf) ?_ ?_ <;> intro hb
|refine zv ?_
|refine zh ?_
|refine zJ ?_
|refine zK ?_
|refine zH ?_
|refine zE rfl ?_
|refine zM rfl ?_
|refine zL ?_
|refine zO ?_
|refine zC ?_
|refine zN ?_
|refine zAG ?_
|refine zB ?_
|refine ⟨_,by conv => lhs; whnf; arg 2; whnf,?_⟩; conv => rhs; whnf
|exact trivial
|intro hg)
 have f1 : decide (((d.f 0).l.length : Int) > 70) = false:=decide_eq_false (by omega)
 rw [show zEQ (d.f 0).l = decide ((lS7 (d.f 0).l (d.f 0).l.length : Int) > 1000) by unfold zEQ; rw [decide_eq_false h7,Bool.false_or]]
 refine zV 71 Tryd.func4 rfl rfl rfl rfl ?_
 intro s w he
 repeat' (first
|apply zG
 . conv => lhs; whnf
 . assumption
|apply zF
 . conv => lhs; whnf
 . assumption
|refine ze ?_
|refine zY ?_
|refine zAP ?_
|refine zA ?_
|refine zI ?_
|refine zZ ?_
|refine zW ?_
|refine zi ?_
|apply aw_1
 conv => whnf
 refine ⟨?_,trivial⟩
|apply s_1
 conv => whnf; arg 1; arg 4; arg 3; whnf
 refine ⟨?_,?_⟩
|apply zAF rfl
 . conv => lhs; whnf
 . conv => lhs; whnf; arg 2; whnf
|apply zAO rfl rfl rfl rfl
 . conv => lhs; whnf; arg 1; whnf
 . rfl
|apply zAV rfl rfl rfl rfl
 . conv => lhs; whnf; arg 1; whnf
 . rfl
|apply z8 rfl rfl rfl
 . conv => lhs; whnf
 . conv => lhs; whnf; arg 1; whnf
 . conv => lhs; whnf; arg 1; whnf
 . exact ⟨by kernel_rfl,by kernel_rfl⟩
 . rfl
|apply zq (by kernel_rfl) (by kernel_rfl)
|apply zAR
|apply zAQ rfl
 . conv => lhs; whnf
 . conv => lhs; whnf; arg 2; whnf
|apply zAl rfl rfl rfl
 . conv => lhs; whnf
 . rfl
 . rfl
 . conv => lhs; whnf; arg 1; whnf
 . conv => lhs; whnf; arg 1; whnf
 . exact ⟨by kernel_rfl,by kernel_rfl⟩
 . rfl
|exact zR
|exact zX
|exact all_nil
|show List.all _ _ = true; rfl
|show zAC _ _ = true; rfl
|exact ([] : List Nat)
|exact (1000000 : Nat)
|apply zS
 . conv => lhs; whnf; arg 1; arg 1; whnf
|apply zU
 . conv => lhs; whnf; arg 1; arg 1; whnf
|refine zd (by conv => lhs; whnf) ?_ ?_ <;> intro hb
|refine zv ?_
|refine zh ?_
|refine zJ ?_
|refine zK ?_
|refine zH ?_
|refine zE rfl ?_
|refine zM rfl ?_
|refine zL ?_
|refine zO ?_
|refine zC ?_
|refine zN ?_
|refine zAG ?_
|refine zB ?_
|refine ⟨_,by conv => lhs; whnf; arg 2; whnf,?_⟩; conv => rhs; whnf
|exact trivial
|intro hg)
 refine z7 (fun j st => ∃ i,i + j = (d.f 0).l.length /\ Sub (cx EN Tryd.prog s w he) st (HL7 d (lS7 (d.f 0).l i) i)) (d.f 0).l.length ⟨0,by omega,Sub.live ⟨rfl,rfl,rfl,trivial⟩ ⟨rfl,trivial⟩⟩ ?_
 rintro j st ⟨i,hij,hs2⟩
 refine zAA hs2 ?_
 clear hs2
 by_cases hi : i < (d.f 0).l.length
 . have f2 : decide ((i : Int) < ((d.f 0).l.length : Nat)) = true:=decide_eq_true (by omega)
   have z1:=lS7_le (d.f 0).l (show i + 1 <= (d.f 0).l.length from hi)
   have e1 : lS7 (d.f 0).l (i + 1) = lS7 (d.f 0).l i + dS7 (gD (d.f 0).l i):=rfl
   have hbg:=zAa hi
   have z2:=dC7_le (gD (d.f 0).l i)
   have e2 : dC7 (gD (d.f 0).l i) = 1 + ((gD (d.f 0).l i).f 4).l.length + ((gD (d.f 0).l i).f 5).l.length + ((gD (d.f 0).l i).f 6).l.length + ((gD (d.f 0).l i).f 3).l.length + ((gD (d.f 0).l i).f 2).l.length:=rfl
   have e3 : dS7 (gD (d.f 0).l i) = dC7 (gD (d.f 0).l i) + fS7 (gD (d.f 0).l i) ((gD (d.f 0).l i).f 4).l.length:=rfl
   have z3:=zAe ((gD (d.f 0).l i).f 4).l
   repeat' (first
|apply zG
 . conv => lhs; whnf
 . assumption
|apply zF
 . conv => lhs; whnf
 . assumption
|refine ze ?_
|refine zY ?_
|refine zAP ?_
|refine zA ?_
|refine zI ?_
|refine zZ ?_
|refine zW ?_
|refine zi ?_
|apply aw_1
 conv => whnf
 refine ⟨?_,trivial⟩
|apply s_1
 conv => whnf; arg 1; arg 4; arg 3; whnf
 refine ⟨?_,?_⟩
|apply zAF rfl
 . conv => lhs; whnf
 . conv => lhs; whnf; arg 2; whnf
|apply zAO rfl rfl rfl rfl
 . conv => lhs; whnf; arg 1; whnf
 . rfl
|apply zAV rfl rfl rfl rfl
 . conv => lhs; whnf; arg 1; whnf
 . rfl
|apply z8 rfl rfl rfl
 . conv => lhs; whnf
 . conv => lhs; whnf; arg 1; whnf
 . conv => lhs; whnf; arg 1; whnf
 . exact ⟨by kernel_rfl,by kernel_rfl⟩
 . rfl
|apply zq (by kernel_rfl) (by kernel_rfl)
|apply zAR
|apply zAQ rfl
 . conv => lhs; whnf
 . conv => lhs; whnf; arg 2; whnf
|apply zAl rfl rfl rfl
 . conv => lhs; whnf
 . rfl
 . rfl
 . conv => lhs; whnf; arg 1; whnf
 . conv => lhs; whnf; arg 1; whnf
 . exact ⟨by kernel_rfl,by kernel_rfl⟩
 . rfl
|exact zR
|exact zX
|exact all_nil
|show List.all _ _ = true; rfl
|show zAC _ _ = true; rfl
|exact ([] : List Nat)
|exact (1000000 : Nat)
|apply zS
 . conv => lhs; whnf; arg 1; arg 1; whnf
|apply zU
 . conv => lhs; whnf; arg 1; arg 1; whnf
|refine zd (by conv => lhs; whnf) ?_ ?_ <;> intro hb
|refine zv ?_
|refine zh ?_
|refine zJ ?_
|refine zK ?_
|refine zH ?_
|refine zE rfl ?_
|refine zM rfl ?_
|refine zL ?_
|refine zO ?_
|refine zC ?_
|refine zN ?_
|refine zAG ?_
|refine zB ?_
|refine ⟨_,by conv => lhs; whnf; arg 2; whnf,?_⟩; conv => rhs; whnf
|exact trivial
|intro hg)
   all_goals first
    | exact zu (by omega)
    | (refine zu ?_; simp only [Int.toNat_natCast,Nat.zero_add,Nat.reduceAdd]; omega)
    | exact zx hi
    | skip
   refine z7 (fun jj st => ∃ k,k + jj = ((gD (d.f 0).l i).f 4).l.length /\ Sub (cx EN Tryd.prog s w he) st (HM7 d (gD (d.f 0).l i) (lS7 (d.f 0).l i + dC7 (gD (d.f 0).l i) + fS7 (gD (d.f 0).l i) k : Nat) i k)) ((gD (d.f 0).l i).f 4).l.length ⟨0,by omega,Sub.live ⟨rfl,?_,rfl,rfl,rfl,trivial⟩ ⟨rfl,rfl,trivial⟩⟩ ?_
   . refine zHL ?_
     rw [show fS7 (gD (d.f 0).l i) 0 = 0 from rfl,e2]
     simp only [Int.toNat_natCast,Nat.zero_add,Nat.reduceAdd]
     omega
   rintro jj st2 ⟨k,hkj,hs3⟩
   refine zAA hs3 ?_
   clear hs3
   by_cases hk : k < ((gD (d.f 0).l i).f 4).l.length
   . have g1 : decide ((k : Int) < (((gD (d.f 0).l i).f 4).l.length : Nat)) = true:=decide_eq_true (by omega)
     have z4:=fS7_le (gD (d.f 0).l i) (show k + 1 <= ((gD (d.f 0).l i).f 4).l.length from hk)
     have e4 : fS7 (gD (d.f 0).l i) (k + 1) = fS7 (gD (d.f 0).l i) k + fC7 (gD ((gD (d.f 0).l i).f 4).l k):=rfl
     have e5 : fC7 (gD ((gD (d.f 0).l i).f 4).l k) = ((gD ((gD (d.f 0).l i).f 4).l k).f 1).l.length + ((gD ((gD (d.f 0).l i).f 4).l k).f 3).l.length:=rfl
     repeat' (first
|apply zG
 . conv => lhs; whnf
 . assumption
|apply zF
 . conv => lhs; whnf
 . assumption
|refine ze ?_
|refine zY ?_
|refine zAP ?_
|refine zA ?_
|refine zI ?_
|refine zZ ?_
|refine zW ?_
|refine zi ?_
|apply aw_1
 conv => whnf
 refine ⟨?_,trivial⟩
|apply s_1
 conv => whnf; arg 1; arg 4; arg 3; whnf
 refine ⟨?_,?_⟩
|apply zAF rfl
 . conv => lhs; whnf
 . conv => lhs; whnf; arg 2; whnf
|apply zAO rfl rfl rfl rfl
 . conv => lhs; whnf; arg 1; whnf
 . rfl
|apply zAV rfl rfl rfl rfl
 . conv => lhs; whnf; arg 1; whnf
 . rfl
|apply z8 rfl rfl rfl
 . conv => lhs; whnf
 . conv => lhs; whnf; arg 1; whnf
 . conv => lhs; whnf; arg 1; whnf
 . exact ⟨by kernel_rfl,by kernel_rfl⟩
 . rfl
|apply zq (by kernel_rfl) (by kernel_rfl)
|apply zAR
|apply zAQ rfl
 . conv => lhs; whnf
 . conv => lhs; whnf; arg 2; whnf
|apply zAl rfl rfl rfl
 . conv => lhs; whnf
 . rfl
 . rfl
 . conv => lhs; whnf; arg 1; whnf
 . conv => lhs; whnf; arg 1; whnf
 . exact ⟨by kernel_rfl,by kernel_rfl⟩
 . rfl
|exact zR
|exact zX
|exact all_nil
|show List.all _ _ = true; rfl
|show zAC _ _ = true; rfl
|exact ([] : List Nat)
|exact (1000000 : Nat)
|apply zS
 . conv => lhs; whnf; arg 1; arg 1; whnf
|apply zU
 . conv => lhs; whnf; arg 1; arg 1; whnf
|refine zd (by conv => lhs; whnf) ?_ ?_ <;> intro hb
|refine zv ?_
|refine zh ?_
|refine zJ ?_
|refine zK ?_
|refine zH ?_
|refine zE rfl ?_
|refine zM rfl ?_
|refine zL ?_
|refine zO ?_
|refine zC ?_
|refine zN ?_
|refine zAG ?_
|refine zB ?_
|refine ⟨_,by conv => lhs; whnf; arg 2; whnf,?_⟩; conv => rhs; whnf
|exact trivial
|intro hg)
     all_goals first
      | exact zu (by omega)
      | (refine zu ?_; simp only [Int.toNat_natCast,Nat.zero_add,Nat.reduceAdd]; omega)
      | exact zx hi
      | exact zx hk
      | (refine za (j':=jj - 1) (by omega) ⟨k + 1,by omega,Sub.live ⟨rfl,?_,rfl,rfl,rfl,trivial⟩ ⟨rfl,rfl,trivial⟩⟩
         refine zHL ?_
         rw [e4,e5]
         try simp only [Int.toNat_natCast,Nat.zero_add,Nat.reduceAdd]
         omega)
      | skip
   . have g1 : decide ((k : Int) < (((gD (d.f 0).l i).f 4).l.length : Nat)) = false:=decide_eq_false (by omega)
     have ek : k = ((gD (d.f 0).l i).f 4).l.length:=by omega
     subst ek
     repeat' (first
|apply zG
 . conv => lhs; whnf
 . assumption
|apply zF
 . conv => lhs; whnf
 . assumption
|refine ze ?_
|refine zY ?_
|refine zAP ?_
|refine zA ?_
|refine zI ?_
|refine zZ ?_
|refine zW ?_
|refine zi ?_
|apply aw_1
 conv => whnf
 refine ⟨?_,trivial⟩
|apply s_1
 conv => whnf; arg 1; arg 4; arg 3; whnf
 refine ⟨?_,?_⟩
|apply zAF rfl
 . conv => lhs; whnf
 . conv => lhs; whnf; arg 2; whnf
|apply zAO rfl rfl rfl rfl
 . conv => lhs; whnf; arg 1; whnf
 . rfl
|apply zAV rfl rfl rfl rfl
 . conv => lhs; whnf; arg 1; whnf
 . rfl
|apply z8 rfl rfl rfl
 . conv => lhs; whnf
 . conv => lhs; whnf; arg 1; whnf
 . conv => lhs; whnf; arg 1; whnf
 . exact ⟨by kernel_rfl,by kernel_rfl⟩
 . rfl
|apply zq (by kernel_rfl) (by kernel_rfl)
|apply zAR
|apply zAQ rfl
 . conv => lhs; whnf
 . conv => lhs; whnf; arg 2; whnf
|apply zAl rfl rfl rfl
 . conv => lhs; whnf
 . rfl
 . rfl
 . conv => lhs; whnf; arg 1; whnf
 . conv => lhs; whnf; arg 1; whnf
 . exact ⟨by kernel_rfl,by kernel_rfl⟩
 . rfl
|exact zR
|exact zX
|exact all_nil
|show List.all _ _ = true; rfl
|show zAC _ _ = true; rfl
|exact ([] : List Nat)
|exact (1000000 : Nat)
|apply zS
 . conv => lhs; whnf; arg 1; arg 1; whnf
|apply zU
 . conv => lhs; whnf; arg 1; arg 1; whnf
|refine zd (by conv => lhs; whnf) ?_ ?_ <;> intro hb
|refine zv ?_
|refine zh ?_
|refine zJ ?_
|refine zK ?_
|refine zH ?_
|refine zE rfl ?_
|refine zM rfl ?_
|refine zL ?_
|refine zO ?_
|refine zC ?_
|refine zN ?_
|refine zAG ?_
|refine zB ?_
|refine ⟨_,by conv => lhs; whnf; arg 2; whnf,?_⟩; conv => rhs; whnf
|exact trivial
|intro hg)
     all_goals first
      | exact zu (by omega)
      | (refine zu ?_; simp only [Int.toNat_natCast,Nat.zero_add,Nat.reduceAdd]; omega)
      | exact zx hi
      | (refine za (j':=j - 1) (by omega) ⟨i + 1,by omega,Sub.live ⟨rfl,?_,rfl,trivial⟩ ⟨rfl,trivial⟩⟩
         refine zHL ?_
         rw [e1,e3]
         try simp only [Int.toNat_natCast,Nat.zero_add,Nat.reduceAdd]
         omega)
      | skip
 . have f2 : decide ((i : Int) < ((d.f 0).l.length : Nat)) = false:=decide_eq_false (by omega)
   have ei : i = (d.f 0).l.length:=by omega
   subst ei
   repeat' (first
|apply zG
 . conv => lhs; whnf
 . assumption
|apply zF
 . conv => lhs; whnf
 . assumption
|refine ze ?_
|refine zY ?_
|refine zAP ?_
|refine zA ?_
|refine zI ?_
|refine zZ ?_
|refine zW ?_
|refine zi ?_
|apply aw_1
 conv => whnf
 refine ⟨?_,trivial⟩
|apply s_1
 conv => whnf; arg 1; arg 4; arg 3; whnf
 refine ⟨?_,?_⟩
|apply zAF rfl
 . conv => lhs; whnf
 . conv => lhs; whnf; arg 2; whnf
|apply zAO rfl rfl rfl rfl
 . conv => lhs; whnf; arg 1; whnf
 . rfl
|apply zAV rfl rfl rfl rfl
 . conv => lhs; whnf; arg 1; whnf
 . rfl
|apply z8 rfl rfl rfl
 . conv => lhs; whnf
 . conv => lhs; whnf; arg 1; whnf
 . conv => lhs; whnf; arg 1; whnf
 . exact ⟨by kernel_rfl,by kernel_rfl⟩
 . rfl
|apply zq (by kernel_rfl) (by kernel_rfl)
|apply zAR
|apply zAQ rfl
 . conv => lhs; whnf
 . conv => lhs; whnf; arg 2; whnf
|apply zAl rfl rfl rfl
 . conv => lhs; whnf
 . rfl
 . rfl
 . conv => lhs; whnf; arg 1; whnf
 . conv => lhs; whnf; arg 1; whnf
 . exact ⟨by kernel_rfl,by kernel_rfl⟩
 . rfl
|exact zR
|exact zX
|exact all_nil
|show List.all _ _ = true; rfl
|show zAC _ _ = true; rfl
|exact ([] : List Nat)
|exact (1000000 : Nat)
|apply zS
 . conv => lhs; whnf; arg 1; arg 1; whnf
|apply zU
 . conv => lhs; whnf; arg 1; arg 1; whnf
|refine zd (by conv => lhs; whnf) ?_ ?_ <;> intro hb
|refine zv ?_
|refine zh ?_
|refine zJ ?_
|refine zK ?_
|refine zH ?_
|refine zE rfl ?_
|refine zM rfl ?_
|refine zL ?_
|refine zO ?_
|refine zC ?_
|refine zN ?_
|refine zAG ?_
|refine zB ?_
|refine ⟨_,by conv => lhs; whnf; arg 2; whnf,?_⟩; conv => rhs; whnf
|exact trivial
|intro hg)
end Go.Proofs.YtdlnnlglmifceaaDoor
namespace Go.Proofs.YtdlnnlglmifceaaDoor
open Go.RowKit
set_option linter.unusedSectionVars false
def nullB (d : D) : Bool:=(d.f 0).n == 0 && (d.f 1).n == 0 && ((d.f 2).s.data.toList == []) && decide ((d.f 3).l.length = 0) && decide ((d.f 4).l.length = 0)
theorem null_valW (d : D) : nullB d = (valY litW d && (d.f 0).n == 0):=by
 obtain ⟨b,hb⟩ : ∃ b,bulkD d = b + 1:=⟨bulkD d - 1,by have:=zA2 d; omega⟩
 have hs : zG8 (b + 1) d = IntKind.i64.wrap ((1 + sumN (fun i => sizeR b (gD (d.f 3).l i)) (d.f 3).l.length : Nat) : Int):=rfl
 have hd : zCp (b + 1) d = IntKind.i64.wrap (maxW (fun i => zCp b (gD (d.f 3).l i)) (d.f 3).l.length + 1):=rfl
 have he : everyL (b + 1) d = (zFv d && !((d.f 3).l.any fun x => !everyL b x)):=rfl
 have hr : bareR (b + 1) d = (!((d.f 0).n == 7) && !((d.f 3).l.any fun x => !bareR b x)):=rfl
 rw [Bool.eq_iff_iff]
 constructor
 . intro h
   unfold nullB at h
   simp only [Bool.and_eq_true,beq_iff_eq,decide_eq_true_eq] at h
   obtain ⟨⟨⟨⟨h0,h1⟩,h2⟩,h3⟩,h4⟩:=h
   have z3:=List.eq_nil_of_length_eq_zero h3
   have z4:=List.eq_nil_of_length_eq_zero h4
   unfold valY litW
   rw [hb,hs,hd,he,hr,h3,z3]
   have hn : zFv d = true:=by
    unfold zFv
    rw [h0,h1,h2,h3,h4,show strsR d = [] by unfold strsR; rw [z4]; rfl,z4]
    rfl
   rw [hn,h0]; rfl
 . intro h
   rw [Bool.and_eq_true,beq_iff_eq] at h
   obtain ⟨h,h0⟩:=h
   unfold valY litW at h
   rw [hb,he] at h
   simp only [Bool.and_eq_true] at h
   have hx:=xnode h.1.2.1
   unfold nullB
   rw [h0]
   have q1 : (d.f 1).n = 0:=by rcases hx.int0 with h | h | h <;> omega
   have q2 : tx (d.f 2).s = []:=by rcases hx.txt0 with h | h | h | h <;> first | exact h | omega
   have q3 : (d.f 3).l.length = 0:=by rcases hx.items0 with h | h | h <;> omega
   have q4 : (d.f 4).l.length = 0:=by rcases hx.keys0 with h | h <;> omega
   have q2 : (d.f 2).s.data.toList = []:=q2
   rw [q1,q2,q3,q4]; rfl
attribute [local irreducible] wpList Calls Code.wp AW AWo OpOk seqK zAf zAj loopK endK AC zAH Yld Sub
attribute [local irreducible] ACB ACX YldG absLexH
theorem nullF_ac (d : D) : AC EN Tryd.prog 62 [.agg (cellsV Tryd.prog 12 44 d)] (.c (.bool (nullB d))):=by
 have hT : ((d.f 2).s.toList == ({ data:=#[] } : ByteArray).toList) = ((d.f 2).s.data.toList == []):=zEF _ []
 have z3 : (((d.f 3).l.length : Int) == 0) = decide ((d.f 3).l.length = 0):=by rw [Bool.eq_iff_iff]; simp only [beq_iff_eq,decide_eq_true_eq]; omega
 have z4 : (((d.f 4).l.length : Int) == 0) = decide ((d.f 4).l.length = 0):=by rw [Bool.eq_iff_iff]; simp only [beq_iff_eq,decide_eq_true_eq]; omega
 unfold nullB
 refine zV 28 Tryd.func62 rfl rfl rfl rfl ?_
 intro s w he
 repeat' (first
|refine zA ?_
|refine zI ?_
|refine zZ ?_
|apply aw_1
 conv => whnf
 refine ⟨?_,trivial⟩
|apply zn rfl rfl
 . conv => lhs; whnf
 . conv => lhs; whnf
 . first | exact bT1 ‹_› | exact bT2 ‹_›
|apply zl rfl rfl
 . conv => lhs; whnf
 . conv => lhs; whnf
 . first | exact bF1 ‹_› | exact bF2 ‹_›
|apply s_1
 conv => whnf; arg 1; arg 4; arg 3; whnf
 refine ⟨?_,?_⟩
|apply zAO rfl rfl rfl rfl
 . conv => lhs; whnf; arg 1; whnf
 . rfl
|apply zQ rfl
 . conv => lhs; whnf
 . conv => lhs; whnf
 . first | rfl | assumption
 . conv => lhs; whnf; arg 2; whnf
|apply zAB rfl
 . conv => lhs; whnf
 . conv => lhs; whnf
 . first | rfl | assumption
|apply zb rfl
 . conv => lhs; whnf
 . conv => lhs; whnf
 . conv => lhs; whnf; arg 2; whnf
|refine zB ?_
|refine ⟨_,by conv => lhs; whnf; arg 2; whnf,?_⟩; conv => rhs; whnf
|exact trivial
|intro hg)
 all_goals
  refine congrArg (fun b => V.c (.bool b)) ?_
  clear he
  simp only [hT,z3,z4] at *
  clear hT z3 z4
  generalize ((d.f 2).s.data.toList == []) = t at *
  generalize decide ((d.f 3).l.length = 0) = b0 at *
  generalize decide ((d.f 4).l.length = 0) = a0 at *
  simp_all
noncomputable def HClF (d : D) (i : Nat) : Vst 21:=stS 21 [(1,.bx 1 0),(3,.c (.int .i64 (i : Int)))] [(1,.box 44 (cellsV Tryd.prog 12 44 d))]
theorem zFV : ∀ (k : Nat) (d : D),Dp k d -> AC EN Tryd.prog 60 [.agg (cellsV Tryd.prog 12 44 d)] (.c (.bool (bareR k d)))
 | 0,_,h => h.elim
 | k + 1,d,h => by
   refine zFZ 2 (by kernel_rfl) fun hL => ?_
   have hl : (d.f 3).l.length <= 9223372036854775807:=(zEP hL).1
   clear hL
   have ih:=fun i (hi : i < (d.f 3).l.length) => zFV k (gD (d.f 3).l i) (h i hi)
   have hR : bareR (k + 1) d = (zAq (bareR k) (d.f 3).l (d.f 3).l.length 0 && !((d.f 0).n == 7)):=by rw [zEp,Bool.and_comm]; rfl
   generalize bareR (k + 1) d = R at hR |-
   refine zV 21 Tryd.func60 rfl rfl rfl rfl ?_
   intro s w he
   repeat' (first
|refine zA ?_
|refine zI ?_
|refine zZ ?_
|apply aw_1
 conv => whnf
 refine ⟨?_,trivial⟩
|apply s_1
 conv => whnf; arg 1; arg 4; arg 3; whnf
 refine ⟨?_,?_⟩
|apply zAO rfl rfl rfl rfl
 . conv => lhs; whnf; arg 1; whnf
 . rfl
|exact trivial)
   refine z7 (fun j st => ∃ i,i + j = (d.f 3).l.length /\ R = (zAq (bareR k) (d.f 3).l j i && !((d.f 0).n == 7)) /\ Sub (cx EN Tryd.prog s w he) st (HClF d i)) (d.f 3).l.length ⟨0,by omega,hR,Sub.live ⟨rfl,rfl,trivial⟩ ⟨rfl,trivial⟩⟩ ?_
   clear hR
   rintro j st ⟨i,hij,hR,hs2⟩
   refine zAA hs2 ?_
   clear hs2
   by_cases hi : i < (d.f 3).l.length
   . obtain ⟨j,rfl⟩ : ∃ q,j = q + 1:=⟨j - 1,by omega⟩
     have f1 : decide ((i : Int) < ((d.f 3).l.length : Nat)) = true:=decide_eq_true (by omega)
     have hR' : R = (bareR k (gD (d.f 3).l i) && zAq (bareR k) (d.f 3).l j (i + 1) && !((d.f 0).n == 7)):=hR
     have ih2:=ih i hi
     repeat' (first
|apply zG
 . conv => lhs; whnf
 . assumption
|refine zA ?_
|refine zI ?_
|refine zZ ?_
|refine zW ?_
|apply aw_1
 conv => whnf
 refine ⟨?_,trivial⟩
|apply s_1
 conv => whnf; arg 1; arg 4; arg 3; whnf
 refine ⟨?_,?_⟩
|apply zk rfl
 . conv => lhs; whnf
 . conv => lhs; whnf
 . first | exact ih2
|refine zd (by conv => lhs; whnf) ?_ ?_ <;> intro hb
|refine zK ?_
|refine zH ?_
|refine zN ?_
|refine zB ?_
|refine ⟨_,by conv => lhs; whnf; arg 2; whnf,?_⟩; conv => rhs; whnf
|exact trivial)
     all_goals first
      | exact zu (by omega)
      | exact zx hi
      | (have e : bareR k (gD (d.f 3).l i) = false:=by simpa using (by assumption : (!bareR k (gD (d.f 3).l i)) = true)
         rw [hR',e]; rfl)
      | (have e : bareR k (gD (d.f 3).l i) = true:=by simpa using (by assumption : (!bareR k (gD (d.f 3).l i)) = false)
         exact za (j':=j) (by omega) ⟨i + 1,by omega,by rw [hR',e,Bool.true_and],Sub.live ⟨rfl,rfl,trivial⟩ ⟨rfl,trivial⟩⟩)
      | skip
   . obtain rfl : j = 0:=by omega
     have f1 : decide ((i : Int) < ((d.f 3).l.length : Nat)) = false:=decide_eq_false (by omega)
     repeat' (first
|apply zF
 . conv => lhs; whnf
 . assumption
|refine zA ?_
|refine zI ?_
|refine zZ ?_
|apply aw_1
 conv => whnf
 refine ⟨?_,trivial⟩
|apply s_1
 conv => whnf; arg 1; arg 4; arg 3; whnf
 refine ⟨?_,?_⟩
|refine zJ ?_
|refine zE rfl ?_
|refine zC ?_
|refine zB ?_
|refine ⟨_,by conv => lhs; whnf; arg 2; whnf,?_⟩; conv => rhs; whnf
|exact trivial)
     rw [hR,zAq,Bool.true_and]; rfl
theorem zEh (d : D) : AC EN Tryd.prog 60 [.agg (cellsV Tryd.prog 12 44 d)] (.c (.bool (bareR (bulkD d) d))):=zFV _ d (zBS (bulkD d) d (Nat.le_refl _))
noncomputable def HTfU (d : D) (i : Nat) : Vst 54:=stS 54 [(1,.bx 1 0),(3,.c (.int .i64 (i : Int)))] [(1,.box 38 (cellsV Tryd.prog 12 38 d))]
theorem zHt (d : D) : AC EN Tryd.prog 61 [.agg (cellsV Tryd.prog 12 38 d)] (.c (.bool (refR d))):=by
 refine zFZ 2 (by kernel_rfl) fun hL2 => ?_
 have hl : (d.f 1).l.length <= 9223372036854775807:=len_ref hL2
 clear hL2
 have hn:=zA6 (d.f 0).s
 have hR : refR d = (nameB (d.f 0).s && decide ((d.f 1).l.length <= 24) && wrapsI (d.f 1).l (d.f 1).l.length 0):=by rw [zHf]; rfl
 generalize refR d = R at hR |-
 have e : decide (((d.f 1).l.length : Int) > 24) = !decide ((d.f 1).l.length <= 24):=by
  rw [Bool.eq_iff_iff]
  simp only [decide_eq_true_eq,Bool.not_eq_true',decide_eq_false_iff_not]
  omega
 refine zV 54 Tryd.func61 rfl rfl rfl rfl ?_
 intro s w he
 repeat' (first
|refine zA ?_
|refine zI ?_
|refine zZ ?_
|apply aw_1
 conv => whnf
 refine ⟨?_,trivial⟩
|apply zn rfl rfl
 . conv => lhs; whnf
 . conv => lhs; whnf
 . first | exact bT1 ‹_› | exact bT2 ‹_›
|apply zl rfl rfl
 . conv => lhs; whnf
 . conv => lhs; whnf
 . first | exact bF1 ‹_› | exact bF2 ‹_›
|apply s_1
 conv => whnf; arg 1; arg 4; arg 3; whnf
 refine ⟨?_,?_⟩
|apply zk rfl
 . conv => lhs; whnf
 . conv => lhs; whnf
 . first | exact hn
|apply zAO rfl rfl rfl rfl
 . conv => lhs; whnf; arg 1; whnf
 . rfl
|apply zQ rfl
 . conv => lhs; whnf
 . conv => lhs; whnf
 . first | rfl | assumption
 . conv => lhs; whnf; arg 2; whnf
|apply zAB rfl
 . conv => lhs; whnf
 . conv => lhs; whnf
 . first | rfl | assumption
|apply zb rfl
 . conv => lhs; whnf
 . conv => lhs; whnf
 . conv => lhs; whnf; arg 2; whnf
|refine zd (by conv => lhs; whnf) ?_ ?_ <;> intro hb
|refine zK ?_
|refine zB ?_
|refine ⟨_,by conv => lhs; whnf; arg 2; whnf,?_⟩; conv => rhs; whnf
|exact trivial
|intro hg)
 . simp_all
   intros
   omega
 . have hR2 : R = wrapsI (d.f 1).l (d.f 1).l.length 0:=by simp_all
   clear hR hn
   refine z7 (fun j st => ∃ i,i + j = (d.f 1).l.length /\ R = wrapsI (d.f 1).l j i /\ Sub (cx EN Tryd.prog s w he) st (HTfU d i)) (d.f 1).l.length ⟨0,by omega,hR2,Sub.live ⟨rfl,rfl,trivial⟩ ⟨rfl,trivial⟩⟩ ?_
   clear hR2 hg hb e
   rintro j st ⟨i,hij,hR,hs2⟩
   refine zAA hs2 ?_
   clear hs2
   by_cases hi : i < (d.f 1).l.length
   . obtain ⟨j,rfl⟩ : ∃ q,j = q + 1:=⟨j - 1,by omega⟩
     have f1 : decide ((i : Int) < ((d.f 1).l.length : Nat)) = true:=decide_eq_true (by omega)
     have e1 : decide ((i : Int) > 0) = decide (0 < i):=decide_eq_decide.2 (by omega)
     have eT : ((i : Int) - 1).toNat = i - 1:=by omega
     have hR' : R = (((gD (d.f (0 + 1)).l (i : Int).toNat).n == 1 || (gD (d.f (0 + 1)).l (i : Int).toNat).n == 2) && !((gD (d.f (0 + 1)).l (i : Int).toNat).n == 1 && decide ((i : Int) > 0) && ((gD (d.f (0 + 1)).l ((i : Int) - 1).toNat).n == (gD (d.f (0 + 1)).l (i : Int).toNat).n)) && wrapsI (d.f 1).l j (i + 1)):=by
      rw [hR,e1,eT,Int.toNat_natCast]; rfl
     clear hR e1
     repeat' (first
|apply zG
 . conv => lhs; whnf
 . assumption
|refine zA ?_
|refine zI ?_
|refine zZ ?_
|refine zW ?_
|apply aw_1
 conv => whnf
 refine ⟨?_,trivial⟩
|apply zn rfl rfl
 . conv => lhs; whnf
 . conv => lhs; whnf
 . first | exact bT1 ‹_› | exact bT2 ‹_›
|apply zl rfl rfl
 . conv => lhs; whnf
 . conv => lhs; whnf
 . first | exact bF1 ‹_› | exact bF2 ‹_›
|apply s_1
 conv => whnf; arg 1; arg 4; arg 3; whnf
 refine ⟨?_,?_⟩
|apply zQ rfl
 . conv => lhs; whnf
 . conv => lhs; whnf
 . first | rfl | assumption
 . conv => lhs; whnf; arg 2; whnf
|apply zAB rfl
 . conv => lhs; whnf
 . conv => lhs; whnf
 . first | rfl | assumption
|apply zb rfl
 . conv => lhs; whnf
 . conv => lhs; whnf
 . conv => lhs; whnf; arg 2; whnf
|refine zd (by conv => lhs; whnf) ?_ ?_ <;> intro hb
|refine zK ?_
|refine zH ?_
|refine zN ?_
|refine zB ?_
|refine ⟨_,by conv => lhs; whnf; arg 2; whnf,?_⟩; conv => rhs; whnf
|exact trivial
|intro hg)
     all_goals first
      | exact zu (by omega)
      | exact zx hi
      | (have h0 : (i : Int) > 0:=by simp_all
         exact (show 0 <= (i : Int) - 1 /\ (i : Int) - 1 < (((d.f 1).l.length : Nat) : Int) from ⟨by omega,by omega⟩))
      | (have h0 : (i : Int) > 0:=by simp_all
         exact zu (by omega))
      | (have hN : R = wrapsI (d.f 1).l j (i + 1):=by simp_all
         exact za (j':=j) (by omega) ⟨i + 1,by omega,hN,Sub.live ⟨rfl,rfl,trivial⟩ ⟨rfl,trivial⟩⟩)
      | skip
     all_goals
      refine congrArg (fun b => V.c (.bool b)) ?_
      clear eT f1 hi hij he
      simp_all
   . obtain rfl : j = 0:=by omega
     have f1 : decide ((i : Int) < ((d.f 1).l.length : Nat)) = false:=decide_eq_false (by omega)
     repeat' (first
|apply zF
 . conv => lhs; whnf
 . assumption
|refine zA ?_
|refine zI ?_
|refine zZ ?_
|apply aw_1
 conv => whnf
 refine ⟨?_,trivial⟩
|apply s_1
 conv => whnf; arg 1; arg 4; arg 3; whnf
 refine ⟨?_,?_⟩
|refine zJ ?_
|refine zE rfl ?_
|refine zC ?_
|refine zB ?_
|refine ⟨_,by conv => lhs; whnf; arg 2; whnf,?_⟩; conv => rhs; whnf
|exact trivial)
     rw [hR]; rfl
 . simp_all
noncomputable def HdFU (l : List D) (i : Nat) : Vst 65:=stS 65 [(0,.sl 64 l),(3,.c (.int .i64 (i : Int)))] []
noncomputable def HdGU (l : List D) (i k : Nat) : Vst 65:=stS 65 [(0,.sl 64 l),(3,.c (.int .i64 (i : Int))),(4,.c (.int .i64 (k : Int)))] []
theorem zDM (l : List D) : AC EN Tryd.prog 41 [.sl 64 l] (.c (.bool (dirsY litW l))):=by
 refine ac_sl 2 fun hL2 => ?_
 have hl : l.length <= 9223372036854775807:=hL2.1
 have hla : ∀ i,i < l.length -> ((gD l i).f 1).l.length <= 9223372036854775807:=fun i hi => len_dir (hL2.2 (by decide +kernel) i hi)
 clear hL2
 by_cases h16 : 16 < l.length
 . have f0 : decide ((l.length : Int) > 16) = true:=decide_eq_true (by omega)
   rw [show dirsY litW l = false by unfold dirsY; rw [decide_eq_false (by omega)]; rfl]
   refine zV 65 Tryd.func41 rfl rfl rfl rfl ?_
   intro s w he
   repeat' (first
|apply zG
 . conv => lhs; whnf
 . assumption
|refine zA ?_
|refine zI ?_
|refine zZ ?_
|apply aw_1
 conv => whnf
 refine ⟨?_,trivial⟩
|apply s_1
 conv => whnf; arg 1; arg 4; arg 3; whnf
 refine ⟨?_,?_⟩
|refine zK ?_
|refine zB ?_
|refine ⟨_,by conv => lhs; whnf; arg 2; whnf,?_⟩; conv => rhs; whnf
|exact trivial)
 have f0 : decide ((l.length : Int) > 16) = false:=decide_eq_false (by omega)
 have hR : dirsY litW l = zAq (dirY litW) l l.length 0:=by unfold dirsY; rw [decide_eq_true (by omega),zBJ,Bool.true_and]
 generalize dirsY litW l = R at hR |-
 refine zV 65 Tryd.func41 rfl rfl rfl rfl ?_
 intro s w he
 repeat' (first
|apply zF
 . conv => lhs; whnf
 . assumption
|refine zA ?_
|refine zI ?_
|refine zZ ?_
|apply aw_1
 conv => whnf
 refine ⟨?_,trivial⟩
|apply s_1
 conv => whnf; arg 1; arg 4; arg 3; whnf
 refine ⟨?_,?_⟩
|exact trivial)
 refine z7 (fun j st => ∃ i,i + j = l.length /\ R = zAq (dirY litW) l j i /\ Sub (cx EN Tryd.prog s w he) st (HdFU l i)) l.length ⟨0,by omega,hR,Sub.live ⟨rfl,rfl,trivial⟩ trivial⟩ ?_
 clear hR
 rintro j st ⟨i,hij,hR,hs2⟩
 refine zAA hs2 ?_
 clear hs2
 by_cases hi : i < l.length
 . obtain ⟨j,rfl⟩ : ∃ q,j = q + 1:=⟨j - 1,by omega⟩
   have f1 : decide ((i : Int) < (l.length : Nat)) = true:=decide_eq_true (by omega)
   have hR' : R = (dirY litW (gD l i) && zAq (dirY litW) l j (i + 1)):=hR
   clear hR
   have ha:=hla i hi
   have h1:=zA6 ((gD l i).f 0).s
   cases hnb : nameB ((gD l i).f 0).s with
   | false =>
     have e : dirY litW (gD l i) = false:=by unfold dirY; rw [hnb]; rfl
     have hRf : R = false:=by rw [hR',e]; rfl
     rw [hRf]
     rw [hnb] at h1
     have K : ((!false) == false) = true -> False:=by decide
     repeat' (first
|apply zG
 . conv => lhs; whnf
 . assumption
|refine zA ?_
|refine zI ?_
|refine zZ ?_
|apply aw_1
 conv => whnf
 refine ⟨?_,trivial⟩
|apply s_1
 conv => whnf; arg 1; arg 4; arg 3; whnf
 refine ⟨?_,?_⟩
|apply zk rfl
 . conv => lhs; whnf
 . conv => lhs; whnf
 . first | exact h1
|refine zK ?_
|refine zH ?_
|refine zN ?_
|refine zB ?_
|refine ⟨_,by conv => lhs; whnf; arg 2; whnf,?_⟩; conv => rhs; whnf
|exact trivial)
     all_goals first
      | exact zu (by omega)
      | exact zx hi
      | rfl
      | skip
   | true =>
     rw [hnb] at h1
     have K : ((!true) == false) = false -> False:=by decide
     by_cases h16 : 16 < ((gD l i).f 1).l.length
     . have f4 : decide ((((gD l i).f 1).l.length : Int) > 16) = true:=decide_eq_true (by omega)
       have e : dirY litW (gD l i) = false:=by unfold dirY argsY; rw [decide_eq_false (by omega)]; simp
       have hRf : R = false:=by rw [hR',e]; rfl
       rw [hRf]
       repeat' (first
|apply zG
 . conv => lhs; whnf
 . assumption
|refine zA ?_
|refine zI ?_
|refine zZ ?_
|apply aw_1
 conv => whnf
 refine ⟨?_,trivial⟩
|apply s_1
 conv => whnf; arg 1; arg 4; arg 3; whnf
 refine ⟨?_,?_⟩
|apply zk rfl
 . conv => lhs; whnf
 . conv => lhs; whnf
 . first | exact h1
|refine zK ?_
|refine zH ?_
|refine zN ?_
|refine zB ?_
|refine ⟨_,by conv => lhs; whnf; arg 2; whnf,?_⟩; conv => rhs; whnf
|exact trivial)
       all_goals first
        | exact zu (by omega)
        | exact zx hi
        | rfl
        | skip
     . have f4 : decide ((((gD l i).f 1).l.length : Int) > 16) = false:=decide_eq_false (by omega)
       have e : dirY litW (gD l i) = zAq (argY litW) ((gD l i).f 1).l ((gD l i).f 1).l.length 0:=by
        unfold dirY argsY; rw [hnb,decide_eq_true (by omega),zBJ,Bool.true_and,Bool.true_and]
       rw [e] at hR'
       clear e
       repeat' (first
|apply zG
 . conv => lhs; whnf
 . assumption
|apply zF
 . conv => lhs; whnf
 . assumption
|refine zA ?_
|refine zI ?_
|refine zZ ?_
|apply aw_1
 conv => whnf
 refine ⟨?_,trivial⟩
|apply s_1
 conv => whnf; arg 1; arg 4; arg 3; whnf
 refine ⟨?_,?_⟩
|apply zk rfl
 . conv => lhs; whnf
 . conv => lhs; whnf
 . first | exact h1
|exact trivial)
       all_goals first
        | exact zu (by omega)
        | exact zx hi
        | skip
       clear h1 K f4
       refine z7 (fun jj st => ∃ k,k + jj = ((gD l i).f 1).l.length /\ R = (zAq (argY litW) ((gD l i).f 1).l jj k && zAq (dirY litW) l j (i + 1)) /\ Sub (cx EN Tryd.prog s w he) st (HdGU l i k)) ((gD l i).f 1).l.length ⟨0,by omega,hR',Sub.live ⟨rfl,rfl,rfl,trivial⟩ trivial⟩ ?_
       clear hR'
       rintro jj st2 ⟨k,hkj,hR,hs3⟩
       refine zAA hs3 ?_
       clear hs3
       by_cases hk : k < ((gD l i).f 1).l.length
       . obtain ⟨jj,rfl⟩ : ∃ q,jj = q + 1:=⟨jj - 1,by omega⟩
         have f2 : decide ((k : Int) < (((gD l i).f 1).l.length : Nat)) = true:=decide_eq_true (by omega)
         have hR' : R = (argY litW (gD ((gD l i).f 1).l k) && zAq (argY litW) ((gD l i).f 1).l jj (k + 1) && zAq (dirY litW) l j (i + 1)):=hR
         clear hR
         have e : argY litW (gD ((gD l i).f 1).l k) = (nameB ((gD ((gD l i).f 1).l k).f 0).s && (litW ((gD ((gD l i).f 1).l k).f 1) && bareR (bulkD ((gD ((gD l i).f 1).l k).f 1)) ((gD ((gD l i).f 1).l k).f 1))):=rfl
         have q1:=zA6 ((gD ((gD l i).f 1).l k).f 0).s
         have q2:=zH5 ((gD ((gD l i).f 1).l k).f 1)
         have q3:=zEh ((gD ((gD l i).f 1).l k).f 1)
         generalize nameB ((gD ((gD l i).f 1).l k).f 0).s = a at q1 e
         generalize litW ((gD ((gD l i).f 1).l k).f 1) = b at q2 e
         generalize bareR (bulkD ((gD ((gD l i).f 1).l k).f 1)) ((gD ((gD l i).f 1).l k).f 1) = c at q3 e
         repeat' (first
|apply zG
 . conv => lhs; whnf
 . assumption
|refine zA ?_
|refine zI ?_
|refine zZ ?_
|refine zW ?_
|apply aw_1
 conv => whnf
 refine ⟨?_,trivial⟩
|apply zn rfl rfl
 . conv => lhs; whnf
 . conv => lhs; whnf
 . first | exact bT1 ‹_› | exact bT2 ‹_›
|apply zl rfl rfl
 . conv => lhs; whnf
 . conv => lhs; whnf
 . first | exact bF1 ‹_› | exact bF2 ‹_›
|apply s_1
 conv => whnf; arg 1; arg 4; arg 3; whnf
 refine ⟨?_,?_⟩
|apply zk rfl
 . conv => lhs; whnf
 . conv => lhs; whnf
 . first | exact q1 | exact q2 | exact q3
|apply z8 rfl rfl rfl
 . conv => lhs; whnf
 . conv => lhs; whnf; arg 1; whnf
 . conv => lhs; whnf; arg 1; whnf
 . exact ⟨by kernel_rfl,by kernel_rfl⟩
 . rfl
|apply zQ rfl
 . conv => lhs; whnf
 . conv => lhs; whnf
 . first | rfl | assumption
 . conv => lhs; whnf; arg 2; whnf
|apply zP rfl
 . conv => lhs; whnf
 . conv => lhs; whnf
 . first | rfl | assumption
 . conv => lhs; whnf
 . first | exact q1 | exact q2 | exact q3
|apply zAB rfl
 . conv => lhs; whnf
 . conv => lhs; whnf
 . first | rfl | assumption
|apply zb rfl
 . conv => lhs; whnf
 . conv => lhs; whnf
 . conv => lhs; whnf; arg 2; whnf
|refine zd (by conv => lhs; whnf) ?_ ?_ <;> intro hb
|refine zK ?_
|refine zH ?_
|refine zN ?_
|refine zB ?_
|refine ⟨_,by conv => lhs; whnf; arg 2; whnf,?_⟩; conv => rhs; whnf
|exact trivial
|intro hg)
         all_goals first
          | exact zu (by omega)
          | exact zx hi
          | exact zx hk
          | (have e2 : argY litW (gD ((gD l i).f 1).l k) = false:=by
              rw [e]; clear q1 q2 q3 e hR' he; cases a <;> cases b <;> cases c <;> simp_all
             rw [hR',e2]; rfl)
          | (have e2 : argY litW (gD ((gD l i).f 1).l k) = true:=by
              rw [e]; clear q1 q2 q3 e hR' he; cases a <;> cases b <;> cases c <;> simp_all
             exact za (j':=jj) (by omega) ⟨k + 1,by omega,by rw [hR',e2,Bool.true_and],Sub.live ⟨rfl,rfl,rfl,trivial⟩ trivial⟩)
          | skip
       . obtain rfl : jj = 0:=by omega
         have f2 : decide ((k : Int) < (((gD l i).f 1).l.length : Nat)) = false:=decide_eq_false (by omega)
         have hR' : R = zAq (dirY litW) l j (i + 1):=by rw [hR,zAq,Bool.true_and]
         repeat' (first
|apply zF
 . conv => lhs; whnf
 . assumption
|refine zA ?_
|refine zI ?_
|refine zZ ?_
|refine zW ?_
|apply aw_1
 conv => whnf
 refine ⟨?_,trivial⟩
|apply s_1
 conv => whnf; arg 1; arg 4; arg 3; whnf
 refine ⟨?_,?_⟩
|refine zJ ?_
|refine zE rfl ?_
|refine zC ?_
|exact trivial)
         all_goals first
          | exact zu (by omega)
          | exact zx hi
          | exact za (j':=j) (by omega) ⟨i + 1,by omega,hR',Sub.live ⟨rfl,rfl,trivial⟩ trivial⟩
          | skip
 . obtain rfl : j = 0:=by omega
   have f1 : decide ((i : Int) < (l.length : Nat)) = false:=decide_eq_false (by omega)
   repeat' (first
|apply zF
 . conv => lhs; whnf
 . assumption
|refine zA ?_
|refine zI ?_
|refine zZ ?_
|apply aw_1
 conv => whnf
 refine ⟨?_,trivial⟩
|apply s_1
 conv => whnf; arg 1; arg 4; arg 3; whnf
 refine ⟨?_,?_⟩
|refine zJ ?_
|refine zE rfl ?_
|refine zC ?_
|refine zB ?_
|refine ⟨_,by conv => lhs; whnf; arg 2; whnf,?_⟩; conv => rhs; whnf
|exact trivial)
   rw [hR]; rfl
end Go.Proofs.YtdlnnlglmifceaaDoor
namespace Go.Proofs.YtdlnnlglmifceaaDoor
open Go.RowKit
set_option linter.unusedSectionVars false
theorem inY_eq (x : D) : inY litW x = (nameB (x.f 0).s && refR (x.f 1) && dirsY litW (x.f 4).l && (if (x.f 2).b = true then litW (x.f 3) && bareR (bulkD (x.f 3)) (x.f 3) else nullB (x.f 3))):=by
 unfold inY
 rw [null_valW]
 cases (x.f 2).b <;> simp [valY,Bool.and_assoc]
attribute [local irreducible] wpList Calls Code.wp AW AWo OpOk seqK zAf zAj loopK endK AC zAH Yld Sub
attribute [local irreducible] ACB ACX YldG absLexH
noncomputable def HinsFU (l : List D) (i : Nat) : Vst 59:=stS 59 [(0,.sl 76 l),(3,.c (.int .i64 (i : Int)))] []
theorem zH9 (l : List D) : AC EN Tryd.prog 44 [.sl 76 l] (.c (.bool (insY litW l))):=by
 refine ac_sl 1 fun hL2 => ?_
 have hl : l.length <= 9223372036854775807:=hL2.1
 clear hL2
 by_cases hbig : 16 < l.length
 . have f0 : decide ((l.length : Int) > 16) = true:=decide_eq_true (by omega)
   rw [show (insY litW l) = false by unfold insY; rw [decide_eq_false (show ¬ l.length <= 16 by omega)]; simp]
   refine zV 59 Tryd.func44 rfl rfl rfl rfl ?_
   intro s w he
   repeat' (first
|apply zG
 . conv => lhs; whnf
 . assumption
|apply zF
 . conv => lhs; whnf
 . assumption
|refine ze ?_
|refine zY ?_
|refine zAP ?_
|refine zA ?_
|refine zI ?_
|refine zZ ?_
|refine zW ?_
|refine zi ?_
|apply aw_1
 conv => whnf
 refine ⟨?_,trivial⟩
|apply zn rfl rfl
 . conv => lhs; whnf
 . conv => lhs; whnf
 . first | exact bT1 ‹_› | exact bT2 ‹_›
|apply zl rfl rfl
 . conv => lhs; whnf
 . conv => lhs; whnf
 . first | exact bF1 ‹_› | exact bF2 ‹_›
|apply s_1
 conv => whnf; arg 1; arg 4; arg 3; whnf
 refine ⟨?_,?_⟩
|apply zAF rfl
 . conv => lhs; whnf
 . conv => lhs; whnf; arg 2; whnf
|apply zk rfl
 . conv => lhs; whnf
 . conv => lhs; whnf
 . first | fail
|apply zAV rfl rfl rfl rfl
 . conv => lhs; whnf; arg 1; whnf
 . rfl
|apply z8 rfl rfl rfl
 . conv => lhs; whnf
 . conv => lhs; whnf; arg 1; whnf
 . conv => lhs; whnf; arg 1; whnf
 . exact ⟨by kernel_rfl,by kernel_rfl⟩
 . rfl
|apply zQ rfl
 . conv => lhs; whnf
 . conv => lhs; whnf
 . first | rfl | assumption
 . conv => lhs; whnf; arg 2; whnf
|apply zP rfl
 . conv => lhs; whnf
 . conv => lhs; whnf
 . first | rfl | assumption
 . conv => lhs; whnf
 . first | fail
|apply zBM rfl
 . conv => lhs; whnf
 . conv => lhs; whnf
 . first | rfl | assumption
|apply zm rfl
 . conv => lhs; whnf
 . conv => lhs; whnf
 . conv => lhs; whnf; arg 2; whnf
|apply zg rfl
 . conv => lhs; whnf
 . conv => lhs; whnf
 . conv => lhs; whnf
 . first | fail
|apply zS
 . conv => lhs; whnf; arg 1; arg 1; whnf
|apply zU
 . conv => lhs; whnf; arg 1; arg 1; whnf
|refine zd (by conv => lhs; whnf) ?_ ?_ <;> intro hb
|refine zv ?_
|refine zh ?_
|refine zJ ?_
|refine zK ?_
|refine zH ?_
|refine zE rfl ?_
|refine zM rfl ?_
|refine zL ?_
|refine zO ?_
|refine zC ?_
|refine zN ?_
|refine zAG ?_
|refine zB ?_
|refine ⟨_,by conv => lhs; whnf; arg 2; whnf,?_⟩; conv => rhs; whnf
|exact trivial
|intro hg)
   all_goals first
    | rfl
    | skip
 have f0 : decide ((l.length : Int) > 16) = false:=decide_eq_false (by omega)
 have hR : (insY litW l) = zAq (inY litW) l l.length 0:=by unfold insY; rw [decide_eq_true (show l.length <= 16 by omega),zBJ,Bool.true_and]
 generalize (insY litW l) = R at hR |-
 refine zV 59 Tryd.func44 rfl rfl rfl rfl ?_
 intro s w he
 repeat' (first
|apply zG
 . conv => lhs; whnf
 . assumption
|apply zF
 . conv => lhs; whnf
 . assumption
|refine ze ?_
|refine zY ?_
|refine zAP ?_
|refine zA ?_
|refine zI ?_
|refine zZ ?_
|refine zW ?_
|refine zi ?_
|apply aw_1
 conv => whnf
 refine ⟨?_,trivial⟩
|apply zn rfl rfl
 . conv => lhs; whnf
 . conv => lhs; whnf
 . first | exact bT1 ‹_› | exact bT2 ‹_›
|apply zl rfl rfl
 . conv => lhs; whnf
 . conv => lhs; whnf
 . first | exact bF1 ‹_› | exact bF2 ‹_›
|apply s_1
 conv => whnf; arg 1; arg 4; arg 3; whnf
 refine ⟨?_,?_⟩
|apply zAF rfl
 . conv => lhs; whnf
 . conv => lhs; whnf; arg 2; whnf
|apply zk rfl
 . conv => lhs; whnf
 . conv => lhs; whnf
 . first | fail
|apply zAV rfl rfl rfl rfl
 . conv => lhs; whnf; arg 1; whnf
 . rfl
|apply z8 rfl rfl rfl
 . conv => lhs; whnf
 . conv => lhs; whnf; arg 1; whnf
 . conv => lhs; whnf; arg 1; whnf
 . exact ⟨by kernel_rfl,by kernel_rfl⟩
 . rfl
|apply zQ rfl
 . conv => lhs; whnf
 . conv => lhs; whnf
 . first | rfl | assumption
 . conv => lhs; whnf; arg 2; whnf
|apply zP rfl
 . conv => lhs; whnf
 . conv => lhs; whnf
 . first | rfl | assumption
 . conv => lhs; whnf
 . first | fail
|apply zBM rfl
 . conv => lhs; whnf
 . conv => lhs; whnf
 . first | rfl | assumption
|apply zm rfl
 . conv => lhs; whnf
 . conv => lhs; whnf
 . conv => lhs; whnf; arg 2; whnf
|apply zg rfl
 . conv => lhs; whnf
 . conv => lhs; whnf
 . conv => lhs; whnf
 . first | fail
|apply zS
 . conv => lhs; whnf; arg 1; arg 1; whnf
|apply zU
 . conv => lhs; whnf; arg 1; arg 1; whnf
|refine zd (by conv => lhs; whnf) ?_ ?_ <;> intro hb
|refine zv ?_
|refine zh ?_
|refine zJ ?_
|refine zK ?_
|refine zH ?_
|refine zE rfl ?_
|refine zM rfl ?_
|refine zL ?_
|refine zO ?_
|refine zC ?_
|refine zN ?_
|refine zAG ?_
|refine zB ?_
|refine ⟨_,by conv => lhs; whnf; arg 2; whnf,?_⟩; conv => rhs; whnf
|exact trivial
|intro hg)
 refine z7 (fun j st => ∃ i,i + j = l.length /\ R = zAq (inY litW) l j i /\ Sub (cx EN Tryd.prog s w he) st (HinsFU l i)) l.length ⟨0,by omega,hR,Sub.live ⟨rfl,rfl,trivial⟩ trivial⟩ ?_
 clear hR f0
 rintro j st ⟨i,hij,hR,hs2⟩
 refine zAA hs2 ?_
 clear hs2
 by_cases hi : i < l.length
 . obtain ⟨j,rfl⟩ : ∃ q,j = q + 1:=⟨j - 1,by omega⟩
   have f1 : decide ((i : Int) < (l.length : Nat)) = true:=decide_eq_true (by omega)
   have hR' : R = (inY litW (gD l i) && zAq (inY litW) l j (i + 1)):=hR
   clear hR
   have h1:=zA6 ((gD l i).f 0).s
   have h2:=zHt ((gD l i).f 1)
   have h3:=zDM ((gD l i).f 4).l
   have h4:=zH5 ((gD l i).f 3)
   have h5:=zEh ((gD l i).f 3)
   have h6:=nullF_ac ((gD l i).f 3)
   have e : inY litW (gD l i) = (nameB ((gD l i).f 0).s && refR ((gD l i).f 1) && dirsY litW ((gD l i).f 4).l && (if ((gD l i).f 2).b = true then litW ((gD l i).f 3) && bareR (bulkD ((gD l i).f 3)) ((gD l i).f 3) else nullB ((gD l i).f 3))):=inY_eq _
   generalize nameB ((gD l i).f 0).s = a at h1 e
   generalize refR ((gD l i).f 1) = b at h2 e
   generalize dirsY litW ((gD l i).f 4).l = c at h3 e
   generalize litW ((gD l i).f 3) = v at h4 e
   generalize bareR (bulkD ((gD l i).f 3)) ((gD l i).f 3) = w2 at h5 e
   generalize nullB ((gD l i).f 3) = nu at h6 e
   repeat' (first
|apply s_wanted_pick_t rfl rfl rfl
 . conv => lhs; whnf
 . first | rfl | assumption
 . conv => lhs; whnf
 . first | exact bT1 ‹_› | exact bT2 ‹_› | rfl
|apply zAK rfl rfl rfl
 . conv => lhs; whnf
 . first | rfl | assumption
 . conv => lhs; whnf
 . first | exact bT1 ‹_› | exact bT2 ‹_› | rfl
|apply s_wanted_pick_f rfl rfl rfl
 . conv => lhs; whnf
 . first | rfl | assumption
 . conv => lhs; whnf
 . first | exact bF1 ‹_› | exact bF2 ‹_› | rfl
|apply zAL rfl rfl rfl
 . conv => lhs; whnf
 . first | rfl | assumption
 . conv => lhs; whnf
 . first | exact bF1 ‹_› | exact bF2 ‹_› | rfl
|apply zG
 . conv => lhs; whnf
 . assumption
|apply zF
 . conv => lhs; whnf
 . assumption
|refine ze ?_
|refine zY ?_
|refine zAP ?_
|refine zA ?_
|refine zI ?_
|refine zZ ?_
|refine zW ?_
|refine zi ?_
|apply aw_1
 conv => whnf
 refine ⟨?_,trivial⟩
|apply zn rfl rfl
 . conv => lhs; whnf
 . conv => lhs; whnf
 . first | exact bT1 ‹_› | exact bT2 ‹_›
|apply zl rfl rfl
 . conv => lhs; whnf
 . conv => lhs; whnf
 . first | exact bF1 ‹_› | exact bF2 ‹_›
|apply s_1
 conv => whnf; arg 1; arg 4; arg 3; whnf
 refine ⟨?_,?_⟩
|apply zAF rfl
 . conv => lhs; whnf
 . conv => lhs; whnf; arg 2; whnf
|apply zk rfl
 . conv => lhs; whnf
 . conv => lhs; whnf
 . first | exact h1 | exact h2 | exact h3 | exact h4 | exact h5 | exact h6
|apply zAV rfl rfl rfl rfl
 . conv => lhs; whnf; arg 1; whnf
 . rfl
|apply z8 rfl rfl rfl
 . conv => lhs; whnf
 . conv => lhs; whnf; arg 1; whnf
 . conv => lhs; whnf; arg 1; whnf
 . exact ⟨by kernel_rfl,by kernel_rfl⟩
 . rfl
|apply zQ rfl
 . conv => lhs; whnf
 . conv => lhs; whnf
 . first | rfl | assumption
 . conv => lhs; whnf; arg 2; whnf
|apply zP rfl
 . conv => lhs; whnf
 . conv => lhs; whnf
 . first | rfl | assumption
 . conv => lhs; whnf
 . first | exact h1 | exact h2 | exact h3 | exact h4 | exact h5 | exact h6
|apply zAB rfl
 . conv => lhs; whnf
 . conv => lhs; whnf
 . first | rfl | assumption
|apply zAm rfl
 . conv => lhs; whnf
 . rfl
 . rfl
|apply zb rfl
 . conv => lhs; whnf
 . conv => lhs; whnf
 . conv => lhs; whnf; arg 2; whnf
|apply zt rfl
 . conv => lhs; whnf
 . conv => lhs; whnf
 . conv => lhs; whnf
 . first | exact h1 | exact h2 | exact h3 | exact h4 | exact h5 | exact h6
|apply zm rfl
 . conv => lhs; whnf
 . conv => lhs; whnf
 . conv => lhs; whnf; arg 2; whnf
|apply zg rfl
 . conv => lhs; whnf
 . conv => lhs; whnf
 . conv => lhs; whnf
 . first | exact h1 | exact h2 | exact h3 | exact h4 | exact h5 | exact h6
|apply zS
 . conv => lhs; whnf; arg 1; arg 1; whnf
|apply zU
 . conv => lhs; whnf; arg 1; arg 1; whnf
|refine zd (by conv => lhs; whnf) ?_ ?_ <;> intro hb
|refine zv ?_
|refine zh ?_
|refine zJ ?_
|refine zK ?_
|refine zH ?_
|refine zE rfl ?_
|refine zM rfl ?_
|refine zL ?_
|refine zO ?_
|refine zC ?_
|refine zN ?_
|refine zAG ?_
|refine zB ?_
|refine ⟨_,by conv => lhs; whnf; arg 2; whnf,?_⟩; conv => rhs; whnf
|exact trivial
|intro hg)
   all_goals first
    | exact zu (by omega)
    | exact zx hi
    | (have e2 : inY litW (gD l i) = false:=by
        rw [e]; clear e hR' he
        simp_all
       rw [hR',e2]; rfl)
    | (have e2 : inY litW (gD l i) = true:=by
        rw [e]; clear e hR' he
        simp_all
       exact za (j':=j) (by omega) ⟨i + 1,by omega,by rw [hR',e2,Bool.true_and],Sub.live ⟨rfl,rfl,trivial⟩ trivial⟩)
    | skip
 . obtain rfl : j = 0:=by omega
   have f1 : decide ((i : Int) < (l.length : Nat)) = false:=decide_eq_false (by omega)
   repeat' (first
|apply zG
 . conv => lhs; whnf
 . assumption
|apply zF
 . conv => lhs; whnf
 . assumption
|refine ze ?_
|refine zY ?_
|refine zAP ?_
|refine zA ?_
|refine zI ?_
|refine zZ ?_
|refine zW ?_
|refine zi ?_
|apply aw_1
 conv => whnf
 refine ⟨?_,trivial⟩
|apply zn rfl rfl
 . conv => lhs; whnf
 . conv => lhs; whnf
 . first | exact bT1 ‹_› | exact bT2 ‹_›
|apply zl rfl rfl
 . conv => lhs; whnf
 . conv => lhs; whnf
 . first | exact bF1 ‹_› | exact bF2 ‹_›
|apply s_1
 conv => whnf; arg 1; arg 4; arg 3; whnf
 refine ⟨?_,?_⟩
|apply zAF rfl
 . conv => lhs; whnf
 . conv => lhs; whnf; arg 2; whnf
|apply zk rfl
 . conv => lhs; whnf
 . conv => lhs; whnf
 . first | fail
|apply zAV rfl rfl rfl rfl
 . conv => lhs; whnf; arg 1; whnf
 . rfl
|apply z8 rfl rfl rfl
 . conv => lhs; whnf
 . conv => lhs; whnf; arg 1; whnf
 . conv => lhs; whnf; arg 1; whnf
 . exact ⟨by kernel_rfl,by kernel_rfl⟩
 . rfl
|apply zQ rfl
 . conv => lhs; whnf
 . conv => lhs; whnf
 . first | rfl | assumption
 . conv => lhs; whnf; arg 2; whnf
|apply zP rfl
 . conv => lhs; whnf
 . conv => lhs; whnf
 . first | rfl | assumption
 . conv => lhs; whnf
 . first | fail
|apply zBM rfl
 . conv => lhs; whnf
 . conv => lhs; whnf
 . first | rfl | assumption
|apply zm rfl
 . conv => lhs; whnf
 . conv => lhs; whnf
 . conv => lhs; whnf; arg 2; whnf
|apply zg rfl
 . conv => lhs; whnf
 . conv => lhs; whnf
 . conv => lhs; whnf
 . first | fail
|apply zS
 . conv => lhs; whnf; arg 1; arg 1; whnf
|apply zU
 . conv => lhs; whnf; arg 1; arg 1; whnf
|refine zd (by conv => lhs; whnf) ?_ ?_ <;> intro hb
|refine zv ?_
|refine zh ?_
|refine zJ ?_
|refine zK ?_
|refine zH ?_
|refine zE rfl ?_
|refine zM rfl ?_
|refine zL ?_
|refine zO ?_
|refine zC ?_
|refine zN ?_
|refine zAG ?_
|refine zB ?_
|refine ⟨_,by conv => lhs; whnf; arg 2; whnf,?_⟩; conv => rhs; whnf
|exact trivial
|intro hg)
   rw [hR]; rfl
noncomputable def HfdsFU (l : List D) (i : Nat) : Vst 52:=stS 52 [(0,.sl 40 l),(3,.c (.int .i64 (i : Int)))] []
theorem fdsFU_ac (l : List D) : AC EN Tryd.prog 42 [.sl 40 l] (.c (.bool ((!decide (l.length = 0)) && fdsY litW l))):=by
 refine ac_sl 1 fun hL2 => ?_
 have hl : l.length <= 9223372036854775807:=hL2.1
 clear hL2
 by_cases h0 : l.length = 0
 . have f00 : decide ((l.length : Int) < 1) = true:=decide_eq_true (by omega)
   have K1 : (decide ((l.length : Int) < 1) == false) = true -> False:=fun h => by rw [f00] at h; cases h
   rw [show ((!decide (l.length = 0)) && fdsY litW l) = false by rw [decide_eq_true h0]; rfl]
   refine zV 52 Tryd.func42 rfl rfl rfl rfl ?_
   intro s w he
   repeat' (first
|apply s_wanted_pick_t rfl rfl rfl
 . conv => lhs; whnf
 . first | rfl | assumption
 . conv => lhs; whnf
 . first | exact bT1 ‹_› | exact bT2 ‹_› | rfl
|apply zAK rfl rfl rfl
 . conv => lhs; whnf
 . first | rfl | assumption
 . conv => lhs; whnf
 . first | exact bT1 ‹_› | exact bT2 ‹_› | rfl
|apply s_wanted_pick_f rfl rfl rfl
 . conv => lhs; whnf
 . first | rfl | assumption
 . conv => lhs; whnf
 . first | exact bF1 ‹_› | exact bF2 ‹_› | rfl
|apply zAL rfl rfl rfl
 . conv => lhs; whnf
 . first | rfl | assumption
 . conv => lhs; whnf
 . first | exact bF1 ‹_› | exact bF2 ‹_› | rfl
|apply zG
 . conv => lhs; whnf
 . assumption
|apply zF
 . conv => lhs; whnf
 . assumption
|exact (K1 ‹_›).elim
|refine ze ?_
|refine zY ?_
|refine zAP ?_
|refine zA ?_
|refine zI ?_
|refine zZ ?_
|refine zW ?_
|refine zi ?_
|apply aw_1
 conv => whnf
 refine ⟨?_,trivial⟩
|apply zn rfl rfl
 . conv => lhs; whnf
 . conv => lhs; whnf
 . first | exact bT1 ‹_› | exact bT2 ‹_›
|apply zl rfl rfl
 . conv => lhs; whnf
 . conv => lhs; whnf
 . first | exact bF1 ‹_› | exact bF2 ‹_›
|apply s_1
 conv => whnf; arg 1; arg 4; arg 3; whnf
 refine ⟨?_,?_⟩
|apply zAF rfl
 . conv => lhs; whnf
 . conv => lhs; whnf; arg 2; whnf
|apply zk rfl
 . conv => lhs; whnf
 . conv => lhs; whnf
 . first | fail
|apply zQ rfl
 . conv => lhs; whnf
 . conv => lhs; whnf
 . first | rfl | assumption
 . conv => lhs; whnf; arg 2; whnf
|apply zP rfl
 . conv => lhs; whnf
 . conv => lhs; whnf
 . first | rfl | assumption
 . conv => lhs; whnf
 . first | fail
|apply zAB rfl
 . conv => lhs; whnf
 . conv => lhs; whnf
 . first | rfl | assumption
|apply zAm rfl
 . conv => lhs; whnf
 . rfl
 . rfl
|apply zb rfl
 . conv => lhs; whnf
 . conv => lhs; whnf
 . conv => lhs; whnf; arg 2; whnf
|apply zt rfl
 . conv => lhs; whnf
 . conv => lhs; whnf
 . conv => lhs; whnf
 . first | fail
|apply zm rfl
 . conv => lhs; whnf
 . conv => lhs; whnf
 . conv => lhs; whnf; arg 2; whnf
|apply zg rfl
 . conv => lhs; whnf
 . conv => lhs; whnf
 . conv => lhs; whnf
 . first | fail
|apply zS
 . conv => lhs; whnf; arg 1; arg 1; whnf
|apply zU
 . conv => lhs; whnf; arg 1; arg 1; whnf
|refine zd (by conv => lhs; whnf) ?_ ?_ <;> intro hb
|refine zv ?_
|refine zh ?_
|refine zJ ?_
|refine zK ?_
|refine zH ?_
|refine zE rfl ?_
|refine zM rfl ?_
|refine zL ?_
|refine zO ?_
|refine zC ?_
|refine zN ?_
|refine zAG ?_
|refine zB ?_
|refine ⟨_,by conv => lhs; whnf; arg 2; whnf,?_⟩; conv => rhs; whnf
|exact trivial
|intro hg)
   all_goals first
    | rfl
    | skip
 have f00 : decide ((l.length : Int) < 1) = false:=decide_eq_false (by omega)
 have K1 : (decide ((l.length : Int) < 1) == false) = false -> False:=fun h => by rw [f00] at h; cases h
 by_cases hbig : 64 < l.length
 . have f0 : decide ((l.length : Int) > 64) = true:=decide_eq_true (by omega)
   rw [show ((!decide (l.length = 0)) && fdsY litW l) = false by unfold fdsY; rw [decide_eq_false (show ¬ l.length <= 64 by omega)]; simp]
   refine zV 52 Tryd.func42 rfl rfl rfl rfl ?_
   intro s w he
   repeat' (first
|apply s_wanted_pick_t rfl rfl rfl
 . conv => lhs; whnf
 . first | rfl | assumption
 . conv => lhs; whnf
 . first | exact bT1 ‹_› | exact bT2 ‹_› | rfl
|apply zAK rfl rfl rfl
 . conv => lhs; whnf
 . first | rfl | assumption
 . conv => lhs; whnf
 . first | exact bT1 ‹_› | exact bT2 ‹_› | rfl
|apply s_wanted_pick_f rfl rfl rfl
 . conv => lhs; whnf
 . first | rfl | assumption
 . conv => lhs; whnf
 . first | exact bF1 ‹_› | exact bF2 ‹_› | rfl
|apply zAL rfl rfl rfl
 . conv => lhs; whnf
 . first | rfl | assumption
 . conv => lhs; whnf
 . first | exact bF1 ‹_› | exact bF2 ‹_› | rfl
|apply zG
 . conv => lhs; whnf
 . assumption
|apply zF
 . conv => lhs; whnf
 . assumption
|exact (K1 ‹_›).elim
|refine ze ?_
|refine zY ?_
|refine zAP ?_
|refine zA ?_
|refine zI ?_
|refine zZ ?_
|refine zW ?_
|refine zi ?_
|apply aw_1
 conv => whnf
 refine ⟨?_,trivial⟩
|apply zn rfl rfl
 . conv => lhs; whnf
 . conv => lhs; whnf
 . first | exact bT1 ‹_› | exact bT2 ‹_›
|apply zl rfl rfl
 . conv => lhs; whnf
 . conv => lhs; whnf
 . first | exact bF1 ‹_› | exact bF2 ‹_›
|apply s_1
 conv => whnf; arg 1; arg 4; arg 3; whnf
 refine ⟨?_,?_⟩
|apply zAF rfl
 . conv => lhs; whnf
 . conv => lhs; whnf; arg 2; whnf
|apply zk rfl
 . conv => lhs; whnf
 . conv => lhs; whnf
 . first | fail
|apply zQ rfl
 . conv => lhs; whnf
 . conv => lhs; whnf
 . first | rfl | assumption
 . conv => lhs; whnf; arg 2; whnf
|apply zP rfl
 . conv => lhs; whnf
 . conv => lhs; whnf
 . first | rfl | assumption
 . conv => lhs; whnf
 . first | fail
|apply zAB rfl
 . conv => lhs; whnf
 . conv => lhs; whnf
 . first | rfl | assumption
|apply zAm rfl
 . conv => lhs; whnf
 . rfl
 . rfl
|apply zb rfl
 . conv => lhs; whnf
 . conv => lhs; whnf
 . conv => lhs; whnf; arg 2; whnf
|apply zt rfl
 . conv => lhs; whnf
 . conv => lhs; whnf
 . conv => lhs; whnf
 . first | fail
|apply zm rfl
 . conv => lhs; whnf
 . conv => lhs; whnf
 . conv => lhs; whnf; arg 2; whnf
|apply zg rfl
 . conv => lhs; whnf
 . conv => lhs; whnf
 . conv => lhs; whnf
 . first | fail
|apply zS
 . conv => lhs; whnf; arg 1; arg 1; whnf
|apply zU
 . conv => lhs; whnf; arg 1; arg 1; whnf
|refine zd (by conv => lhs; whnf) ?_ ?_ <;> intro hb
|refine zv ?_
|refine zh ?_
|refine zJ ?_
|refine zK ?_
|refine zH ?_
|refine zE rfl ?_
|refine zM rfl ?_
|refine zL ?_
|refine zO ?_
|refine zC ?_
|refine zN ?_
|refine zAG ?_
|refine zB ?_
|refine ⟨_,by conv => lhs; whnf; arg 2; whnf,?_⟩; conv => rhs; whnf
|exact trivial
|intro hg)
   all_goals first
    | rfl
    | skip
 have f0 : decide ((l.length : Int) > 64) = false:=decide_eq_false (by omega)
 have hR : ((!decide (l.length = 0)) && fdsY litW l) = zAq (fdY litW) l l.length 0:=by unfold fdsY; rw [decide_eq_true (show l.length <= 64 by omega),zBJ,Bool.true_and,decide_eq_false h0]; rfl
 generalize ((!decide (l.length = 0)) && fdsY litW l) = R at hR |-
 refine zV 52 Tryd.func42 rfl rfl rfl rfl ?_
 intro s w he
 repeat' (first
|apply s_wanted_pick_t rfl rfl rfl
 . conv => lhs; whnf
 . first | rfl | assumption
 . conv => lhs; whnf
 . first | exact bT1 ‹_› | exact bT2 ‹_› | rfl
|apply zAK rfl rfl rfl
 . conv => lhs; whnf
 . first | rfl | assumption
 . conv => lhs; whnf
 . first | exact bT1 ‹_› | exact bT2 ‹_› | rfl
|apply s_wanted_pick_f rfl rfl rfl
 . conv => lhs; whnf
 . first | rfl | assumption
 . conv => lhs; whnf
 . first | exact bF1 ‹_› | exact bF2 ‹_› | rfl
|apply zAL rfl rfl rfl
 . conv => lhs; whnf
 . first | rfl | assumption
 . conv => lhs; whnf
 . first | exact bF1 ‹_› | exact bF2 ‹_› | rfl
|apply zG
 . conv => lhs; whnf
 . assumption
|apply zF
 . conv => lhs; whnf
 . assumption
|exact (K1 ‹_›).elim
|refine ze ?_
|refine zY ?_
|refine zAP ?_
|refine zA ?_
|refine zI ?_
|refine zZ ?_
|refine zW ?_
|refine zi ?_
|apply aw_1
 conv => whnf
 refine ⟨?_,trivial⟩
|apply zn rfl rfl
 . conv => lhs; whnf
 . conv => lhs; whnf
 . first | exact bT1 ‹_› | exact bT2 ‹_›
|apply zl rfl rfl
 . conv => lhs; whnf
 . conv => lhs; whnf
 . first | exact bF1 ‹_› | exact bF2 ‹_›
|apply s_1
 conv => whnf; arg 1; arg 4; arg 3; whnf
 refine ⟨?_,?_⟩
|apply zAF rfl
 . conv => lhs; whnf
 . conv => lhs; whnf; arg 2; whnf
|apply zk rfl
 . conv => lhs; whnf
 . conv => lhs; whnf
 . first | fail
|apply zQ rfl
 . conv => lhs; whnf
 . conv => lhs; whnf
 . first | rfl | assumption
 . conv => lhs; whnf; arg 2; whnf
|apply zP rfl
 . conv => lhs; whnf
 . conv => lhs; whnf
 . first | rfl | assumption
 . conv => lhs; whnf
 . first | fail
|apply zAB rfl
 . conv => lhs; whnf
 . conv => lhs; whnf
 . first | rfl | assumption
|apply zAm rfl
 . conv => lhs; whnf
 . rfl
 . rfl
|apply zb rfl
 . conv => lhs; whnf
 . conv => lhs; whnf
 . conv => lhs; whnf; arg 2; whnf
|apply zt rfl
 . conv => lhs; whnf
 . conv => lhs; whnf
 . conv => lhs; whnf
 . first | fail
|apply zm rfl
 . conv => lhs; whnf
 . conv => lhs; whnf
 . conv => lhs; whnf; arg 2; whnf
|apply zg rfl
 . conv => lhs; whnf
 . conv => lhs; whnf
 . conv => lhs; whnf
 . first | fail
|apply zS
 . conv => lhs; whnf; arg 1; arg 1; whnf
|apply zU
 . conv => lhs; whnf; arg 1; arg 1; whnf
|refine zd (by conv => lhs; whnf) ?_ ?_ <;> intro hb
|refine zv ?_
|refine zh ?_
|refine zJ ?_
|refine zK ?_
|refine zH ?_
|refine zE rfl ?_
|refine zM rfl ?_
|refine zL ?_
|refine zO ?_
|refine zC ?_
|refine zN ?_
|refine zAG ?_
|refine zB ?_
|refine ⟨_,by conv => lhs; whnf; arg 2; whnf,?_⟩; conv => rhs; whnf
|exact trivial
|intro hg)
 refine z7 (fun j st => ∃ i,i + j = l.length /\ R = zAq (fdY litW) l j i /\ Sub (cx EN Tryd.prog s w he) st (HfdsFU l i)) l.length ⟨0,by omega,hR,Sub.live ⟨rfl,rfl,trivial⟩ trivial⟩ ?_
 clear hR f0 f00 K1
 rintro j st ⟨i,hij,hR,hs2⟩
 refine zAA hs2 ?_
 clear hs2
 by_cases hi : i < l.length
 . obtain ⟨j,rfl⟩ : ∃ q,j = q + 1:=⟨j - 1,by omega⟩
   have f1 : decide ((i : Int) < (l.length : Nat)) = true:=decide_eq_true (by omega)
   have hR' : R = (fdY litW (gD l i) && zAq (fdY litW) l j (i + 1)):=hR
   clear hR
   have h1:=zA6 ((gD l i).f 0).s
   have h2:=zH9 ((gD l i).f 1).l
   have h3:=zHt ((gD l i).f 2)
   have h4:=zDM ((gD l i).f 3).l
   have e : fdY litW (gD l i) = (nameB ((gD l i).f 0).s && insY litW ((gD l i).f 1).l && refR ((gD l i).f 2) && dirsY litW ((gD l i).f 3).l):=rfl
   generalize nameB ((gD l i).f 0).s = a at h1 e
   generalize insY litW ((gD l i).f 1).l = b at h2 e
   generalize refR ((gD l i).f 2) = c at h3 e
   generalize dirsY litW ((gD l i).f 3).l = v at h4 e
   repeat' (first
|apply s_wanted_pick_t rfl rfl rfl
 . conv => lhs; whnf
 . first | rfl | assumption
 . conv => lhs; whnf
 . first | exact bT1 ‹_› | exact bT2 ‹_› | rfl
|apply zAK rfl rfl rfl
 . conv => lhs; whnf
 . first | rfl | assumption
 . conv => lhs; whnf
 . first | exact bT1 ‹_› | exact bT2 ‹_› | rfl
|apply s_wanted_pick_f rfl rfl rfl
 . conv => lhs; whnf
 . first | rfl | assumption
 . conv => lhs; whnf
 . first | exact bF1 ‹_› | exact bF2 ‹_› | rfl
|apply zAL rfl rfl rfl
 . conv => lhs; whnf
 . first | rfl | assumption
 . conv => lhs; whnf
 . first | exact bF1 ‹_› | exact bF2 ‹_› | rfl
|apply zG
 . conv => lhs; whnf
 . assumption
|apply zF
 . conv => lhs; whnf
 . assumption
|refine ze ?_
|refine zY ?_
|refine zAP ?_
|refine zA ?_
|refine zI ?_
|refine zZ ?_
|refine zW ?_
|refine zi ?_
|apply aw_1
 conv => whnf
 refine ⟨?_,trivial⟩
|apply zn rfl rfl
 . conv => lhs; whnf
 . conv => lhs; whnf
 . first | exact bT1 ‹_› | exact bT2 ‹_›
|apply zl rfl rfl
 . conv => lhs; whnf
 . conv => lhs; whnf
 . first | exact bF1 ‹_› | exact bF2 ‹_›
|apply s_1
 conv => whnf; arg 1; arg 4; arg 3; whnf
 refine ⟨?_,?_⟩
|apply zAF rfl
 . conv => lhs; whnf
 . conv => lhs; whnf; arg 2; whnf
|apply zk rfl
 . conv => lhs; whnf
 . conv => lhs; whnf
 . first | exact h1 | exact h2 | exact h3 | exact h4
|apply zQ rfl
 . conv => lhs; whnf
 . conv => lhs; whnf
 . first | rfl | assumption
 . conv => lhs; whnf; arg 2; whnf
|apply zP rfl
 . conv => lhs; whnf
 . conv => lhs; whnf
 . first | rfl | assumption
 . conv => lhs; whnf
 . first | exact h1 | exact h2 | exact h3 | exact h4
|apply zAB rfl
 . conv => lhs; whnf
 . conv => lhs; whnf
 . first | rfl | assumption
|apply zAm rfl
 . conv => lhs; whnf
 . rfl
 . rfl
|apply zb rfl
 . conv => lhs; whnf
 . conv => lhs; whnf
 . conv => lhs; whnf; arg 2; whnf
|apply zt rfl
 . conv => lhs; whnf
 . conv => lhs; whnf
 . conv => lhs; whnf
 . first | exact h1 | exact h2 | exact h3 | exact h4
|apply zm rfl
 . conv => lhs; whnf
 . conv => lhs; whnf
 . conv => lhs; whnf; arg 2; whnf
|apply zg rfl
 . conv => lhs; whnf
 . conv => lhs; whnf
 . conv => lhs; whnf
 . first | exact h1 | exact h2 | exact h3 | exact h4
|apply zS
 . conv => lhs; whnf; arg 1; arg 1; whnf
|apply zU
 . conv => lhs; whnf; arg 1; arg 1; whnf
|refine zd (by conv => lhs; whnf) ?_ ?_ <;> intro hb
|refine zv ?_
|refine zh ?_
|refine zJ ?_
|refine zK ?_
|refine zH ?_
|refine zE rfl ?_
|refine zM rfl ?_
|refine zL ?_
|refine zO ?_
|refine zC ?_
|refine zN ?_
|refine zAG ?_
|refine zB ?_
|refine ⟨_,by conv => lhs; whnf; arg 2; whnf,?_⟩; conv => rhs; whnf
|exact trivial
|intro hg)
   all_goals first
    | exact zu (by omega)
    | exact zx hi
    | (have e2 : fdY litW (gD l i) = false:=by
        rw [e]; clear e hR' he
        simp_all
       rw [hR',e2]; rfl)
    | (have e2 : fdY litW (gD l i) = true:=by
        rw [e]; clear e hR' he
        simp_all
       exact za (j':=j) (by omega) ⟨i + 1,by omega,by rw [hR',e2,Bool.true_and],Sub.live ⟨rfl,rfl,trivial⟩ trivial⟩)
    | skip
 . obtain rfl : j = 0:=by omega
   have f1 : decide ((i : Int) < (l.length : Nat)) = false:=decide_eq_false (by omega)
   repeat' (first
|apply zG
 . conv => lhs; whnf
 . assumption
|apply zF
 . conv => lhs; whnf
 . assumption
|refine ze ?_
|refine zY ?_
|refine zAP ?_
|refine zA ?_
|refine zI ?_
|refine zZ ?_
|refine zW ?_
|refine zi ?_
|apply aw_1
 conv => whnf
 refine ⟨?_,trivial⟩
|apply zn rfl rfl
 . conv => lhs; whnf
 . conv => lhs; whnf
 . first | exact bT1 ‹_› | exact bT2 ‹_›
|apply zl rfl rfl
 . conv => lhs; whnf
 . conv => lhs; whnf
 . first | exact bF1 ‹_› | exact bF2 ‹_›
|apply s_1
 conv => whnf; arg 1; arg 4; arg 3; whnf
 refine ⟨?_,?_⟩
|apply zAF rfl
 . conv => lhs; whnf
 . conv => lhs; whnf; arg 2; whnf
|apply zk rfl
 . conv => lhs; whnf
 . conv => lhs; whnf
 . first | fail
|apply zQ rfl
 . conv => lhs; whnf
 . conv => lhs; whnf
 . first | rfl | assumption
 . conv => lhs; whnf; arg 2; whnf
|apply zP rfl
 . conv => lhs; whnf
 . conv => lhs; whnf
 . first | rfl | assumption
 . conv => lhs; whnf
 . first | fail
|apply zBM rfl
 . conv => lhs; whnf
 . conv => lhs; whnf
 . first | rfl | assumption
|apply zm rfl
 . conv => lhs; whnf
 . conv => lhs; whnf
 . conv => lhs; whnf; arg 2; whnf
|apply zg rfl
 . conv => lhs; whnf
 . conv => lhs; whnf
 . conv => lhs; whnf
 . first | fail
|apply zS
 . conv => lhs; whnf; arg 1; arg 1; whnf
|apply zU
 . conv => lhs; whnf; arg 1; arg 1; whnf
|refine zd (by conv => lhs; whnf) ?_ ?_ <;> intro hb
|refine zv ?_
|refine zh ?_
|refine zJ ?_
|refine zK ?_
|refine zH ?_
|refine zE rfl ?_
|refine zM rfl ?_
|refine zL ?_
|refine zO ?_
|refine zC ?_
|refine zN ?_
|refine zAG ?_
|refine zB ?_
|refine ⟨_,by conv => lhs; whnf; arg 2; whnf,?_⟩; conv => rhs; whnf
|exact trivial
|intro hg)
   rw [hR]; rfl
noncomputable def HmbsFU (l : List D) (u : Bool) (i : Nat) : Vst 48:=stS 48 [(0,.sl 53 l),(1,.c (.bool u)),(5,.c (.int .i64 (i : Int)))] []
theorem zH1 (l : List D) (u : Bool) : AC EN Tryd.prog 43 [.sl 53 l,.c (.bool u)] (.c (.bool ((!decide (l.length = 0)) && mbsY litW u l))):=by
 refine ac_sl 1 fun hL2 => ?_
 have hl : l.length <= 9223372036854775807:=hL2.1
 clear hL2
 by_cases h0 : l.length = 0
 . have f00 : decide ((l.length : Int) < 1) = true:=decide_eq_true (by omega)
   have K1 : (decide ((l.length : Int) < 1) == false) = true -> False:=fun h => by rw [f00] at h; cases h
   rw [show ((!decide (l.length = 0)) && mbsY litW u l) = false by rw [decide_eq_true h0]; rfl]
   refine zV 48 Tryd.func43 rfl rfl rfl rfl ?_
   intro s w he
   repeat' (first
|apply s_wanted_pick_t rfl rfl rfl
 . conv => lhs; whnf
 . first | rfl | assumption
 . conv => lhs; whnf
 . first | exact bT1 ‹_› | exact bT2 ‹_› | rfl
|apply zAK rfl rfl rfl
 . conv => lhs; whnf
 . first | rfl | assumption
 . conv => lhs; whnf
 . first | exact bT1 ‹_› | exact bT2 ‹_› | rfl
|apply s_wanted_pick_f rfl rfl rfl
 . conv => lhs; whnf
 . first | rfl | assumption
 . conv => lhs; whnf
 . first | exact bF1 ‹_› | exact bF2 ‹_› | rfl
|apply zAL rfl rfl rfl
 . conv => lhs; whnf
 . first | rfl | assumption
 . conv => lhs; whnf
 . first | exact bF1 ‹_› | exact bF2 ‹_› | rfl
|apply zG
 . conv => lhs; whnf
 . assumption
|apply zF
 . conv => lhs; whnf
 . assumption
|exact (K1 ‹_›).elim
|refine ze ?_
|refine zY ?_
|refine zAP ?_
|refine zA ?_
|refine zI ?_
|refine zZ ?_
|refine zW ?_
|refine zi ?_
|apply aw_1
 conv => whnf
 refine ⟨?_,trivial⟩
|apply zn rfl rfl
 . conv => lhs; whnf
 . conv => lhs; whnf
 . first | exact bT1 ‹_› | exact bT2 ‹_›
|apply zl rfl rfl
 . conv => lhs; whnf
 . conv => lhs; whnf
 . first | exact bF1 ‹_› | exact bF2 ‹_›
|apply s_1
 conv => whnf; arg 1; arg 4; arg 3; whnf
 refine ⟨?_,?_⟩
|apply zAF rfl
 . conv => lhs; whnf
 . conv => lhs; whnf; arg 2; whnf
|apply zk rfl
 . conv => lhs; whnf
 . conv => lhs; whnf
 . first | fail
|apply zQ rfl
 . conv => lhs; whnf
 . conv => lhs; whnf
 . first | rfl | assumption
 . conv => lhs; whnf; arg 2; whnf
|apply zP rfl
 . conv => lhs; whnf
 . conv => lhs; whnf
 . first | rfl | assumption
 . conv => lhs; whnf
 . first | fail
|apply zAB rfl
 . conv => lhs; whnf
 . conv => lhs; whnf
 . first | rfl | assumption
|apply zAm rfl
 . conv => lhs; whnf
 . rfl
 . rfl
|apply zb rfl
 . conv => lhs; whnf
 . conv => lhs; whnf
 . conv => lhs; whnf; arg 2; whnf
|apply zt rfl
 . conv => lhs; whnf
 . conv => lhs; whnf
 . conv => lhs; whnf
 . first | fail
|apply zm rfl
 . conv => lhs; whnf
 . conv => lhs; whnf
 . conv => lhs; whnf; arg 2; whnf
|apply zg rfl
 . conv => lhs; whnf
 . conv => lhs; whnf
 . conv => lhs; whnf
 . first | fail
|apply zS
 . conv => lhs; whnf; arg 1; arg 1; whnf
|apply zU
 . conv => lhs; whnf; arg 1; arg 1; whnf
|refine zd (by conv => lhs; whnf) ?_ ?_ <;> intro hb
|refine zv ?_
|refine zh ?_
|refine zJ ?_
|refine zK ?_
|refine zH ?_
|refine zE rfl ?_
|refine zM rfl ?_
|refine zL ?_
|refine zO ?_
|refine zC ?_
|refine zN ?_
|refine zAG ?_
|refine zB ?_
|refine ⟨_,by conv => lhs; whnf; arg 2; whnf,?_⟩; conv => rhs; whnf
|exact trivial
|intro hg)
   all_goals first
    | rfl
    | skip
 have f00 : decide ((l.length : Int) < 1) = false:=decide_eq_false (by omega)
 have K1 : (decide ((l.length : Int) < 1) == false) = false -> False:=fun h => by rw [f00] at h; cases h
 by_cases hbig : 64 < l.length
 . have f0 : decide ((l.length : Int) > 64) = true:=decide_eq_true (by omega)
   rw [show ((!decide (l.length = 0)) && mbsY litW u l) = false by unfold mbsY; rw [decide_eq_false (show ¬ l.length <= 64 by omega)]; simp]
   refine zV 48 Tryd.func43 rfl rfl rfl rfl ?_
   intro s w he
   repeat' (first
|apply s_wanted_pick_t rfl rfl rfl
 . conv => lhs; whnf
 . first | rfl | assumption
 . conv => lhs; whnf
 . first | exact bT1 ‹_› | exact bT2 ‹_› | rfl
|apply zAK rfl rfl rfl
 . conv => lhs; whnf
 . first | rfl | assumption
 . conv => lhs; whnf
 . first | exact bT1 ‹_› | exact bT2 ‹_› | rfl
|apply s_wanted_pick_f rfl rfl rfl
 . conv => lhs; whnf
 . first | rfl | assumption
 . conv => lhs; whnf
 . first | exact bF1 ‹_› | exact bF2 ‹_› | rfl
|apply zAL rfl rfl rfl
 . conv => lhs; whnf
 . first | rfl | assumption
 . conv => lhs; whnf
 . first | exact bF1 ‹_› | exact bF2 ‹_› | rfl
|apply zG
 . conv => lhs; whnf
 . assumption
|apply zF
 . conv => lhs; whnf
 . assumption
|exact (K1 ‹_›).elim
|refine ze ?_
|refine zY ?_
|refine zAP ?_
|refine zA ?_
|refine zI ?_
|refine zZ ?_
|refine zW ?_
|refine zi ?_
|apply aw_1
 conv => whnf
 refine ⟨?_,trivial⟩
|apply zn rfl rfl
 . conv => lhs; whnf
 . conv => lhs; whnf
 . first | exact bT1 ‹_› | exact bT2 ‹_›
|apply zl rfl rfl
 . conv => lhs; whnf
 . conv => lhs; whnf
 . first | exact bF1 ‹_› | exact bF2 ‹_›
|apply s_1
 conv => whnf; arg 1; arg 4; arg 3; whnf
 refine ⟨?_,?_⟩
|apply zAF rfl
 . conv => lhs; whnf
 . conv => lhs; whnf; arg 2; whnf
|apply zk rfl
 . conv => lhs; whnf
 . conv => lhs; whnf
 . first | fail
|apply zQ rfl
 . conv => lhs; whnf
 . conv => lhs; whnf
 . first | rfl | assumption
 . conv => lhs; whnf; arg 2; whnf
|apply zP rfl
 . conv => lhs; whnf
 . conv => lhs; whnf
 . first | rfl | assumption
 . conv => lhs; whnf
 . first | fail
|apply zAB rfl
 . conv => lhs; whnf
 . conv => lhs; whnf
 . first | rfl | assumption
|apply zAm rfl
 . conv => lhs; whnf
 . rfl
 . rfl
|apply zb rfl
 . conv => lhs; whnf
 . conv => lhs; whnf
 . conv => lhs; whnf; arg 2; whnf
|apply zt rfl
 . conv => lhs; whnf
 . conv => lhs; whnf
 . conv => lhs; whnf
 . first | fail
|apply zm rfl
 . conv => lhs; whnf
 . conv => lhs; whnf
 . conv => lhs; whnf; arg 2; whnf
|apply zg rfl
 . conv => lhs; whnf
 . conv => lhs; whnf
 . conv => lhs; whnf
 . first | fail
|apply zS
 . conv => lhs; whnf; arg 1; arg 1; whnf
|apply zU
 . conv => lhs; whnf; arg 1; arg 1; whnf
|refine zd (by conv => lhs; whnf) ?_ ?_ <;> intro hb
|refine zv ?_
|refine zh ?_
|refine zJ ?_
|refine zK ?_
|refine zH ?_
|refine zE rfl ?_
|refine zM rfl ?_
|refine zL ?_
|refine zO ?_
|refine zC ?_
|refine zN ?_
|refine zAG ?_
|refine zB ?_
|refine ⟨_,by conv => lhs; whnf; arg 2; whnf,?_⟩; conv => rhs; whnf
|exact trivial
|intro hg)
   all_goals first
    | rfl
    | skip
 have f0 : decide ((l.length : Int) > 64) = false:=decide_eq_false (by omega)
 have hR : ((!decide (l.length = 0)) && mbsY litW u l) = zAq (mbY litW u) l l.length 0:=by unfold mbsY; rw [decide_eq_true (show l.length <= 64 by omega),zBJ,Bool.true_and,decide_eq_false h0]; rfl
 generalize ((!decide (l.length = 0)) && mbsY litW u l) = R at hR |-
 refine zV 48 Tryd.func43 rfl rfl rfl rfl ?_
 intro s w he
 repeat' (first
|apply s_wanted_pick_t rfl rfl rfl
 . conv => lhs; whnf
 . first | rfl | assumption
 . conv => lhs; whnf
 . first | exact bT1 ‹_› | exact bT2 ‹_› | rfl
|apply zAK rfl rfl rfl
 . conv => lhs; whnf
 . first | rfl | assumption
 . conv => lhs; whnf
 . first | exact bT1 ‹_› | exact bT2 ‹_› | rfl
|apply s_wanted_pick_f rfl rfl rfl
 . conv => lhs; whnf
 . first | rfl | assumption
 . conv => lhs; whnf
 . first | exact bF1 ‹_› | exact bF2 ‹_› | rfl
|apply zAL rfl rfl rfl
 . conv => lhs; whnf
 . first | rfl | assumption
 . conv => lhs; whnf
 . first | exact bF1 ‹_› | exact bF2 ‹_› | rfl
|apply zG
 . conv => lhs; whnf
 . assumption
|apply zF
 . conv => lhs; whnf
 . assumption
|exact (K1 ‹_›).elim
|refine ze ?_
|refine zY ?_
|refine zAP ?_
|refine zA ?_
|refine zI ?_
|refine zZ ?_
|refine zW ?_
|refine zi ?_
|apply aw_1
 conv => whnf
 refine ⟨?_,trivial⟩
|apply zn rfl rfl
 . conv => lhs; whnf
 . conv => lhs; whnf
 . first | exact bT1 ‹_› | exact bT2 ‹_›
|apply zl rfl rfl
 . conv => lhs; whnf
 . conv => lhs; whnf
 . first | exact bF1 ‹_› | exact bF2 ‹_›
|apply s_1
 conv => whnf; arg 1; arg 4; arg 3; whnf
 refine ⟨?_,?_⟩
|apply zAF rfl
 . conv => lhs; whnf
 . conv => lhs; whnf; arg 2; whnf
|apply zk rfl
 . conv => lhs; whnf
 . conv => lhs; whnf
 . first | fail
|apply zQ rfl
 . conv => lhs; whnf
 . conv => lhs; whnf
 . first | rfl | assumption
 . conv => lhs; whnf; arg 2; whnf
|apply zP rfl
 . conv => lhs; whnf
 . conv => lhs; whnf
 . first | rfl | assumption
 . conv => lhs; whnf
 . first | fail
|apply zAB rfl
 . conv => lhs; whnf
 . conv => lhs; whnf
 . first | rfl | assumption
|apply zAm rfl
 . conv => lhs; whnf
 . rfl
 . rfl
|apply zb rfl
 . conv => lhs; whnf
 . conv => lhs; whnf
 . conv => lhs; whnf; arg 2; whnf
|apply zt rfl
 . conv => lhs; whnf
 . conv => lhs; whnf
 . conv => lhs; whnf
 . first | fail
|apply zm rfl
 . conv => lhs; whnf
 . conv => lhs; whnf
 . conv => lhs; whnf; arg 2; whnf
|apply zg rfl
 . conv => lhs; whnf
 . conv => lhs; whnf
 . conv => lhs; whnf
 . first | fail
|apply zS
 . conv => lhs; whnf; arg 1; arg 1; whnf
|apply zU
 . conv => lhs; whnf; arg 1; arg 1; whnf
|refine zd (by conv => lhs; whnf) ?_ ?_ <;> intro hb
|refine zv ?_
|refine zh ?_
|refine zJ ?_
|refine zK ?_
|refine zH ?_
|refine zE rfl ?_
|refine zM rfl ?_
|refine zL ?_
|refine zO ?_
|refine zC ?_
|refine zN ?_
|refine zAG ?_
|refine zB ?_
|refine ⟨_,by conv => lhs; whnf; arg 2; whnf,?_⟩; conv => rhs; whnf
|exact trivial
|intro hg)
 refine z7 (fun j st => ∃ i,i + j = l.length /\ R = zAq (mbY litW u) l j i /\ Sub (cx EN Tryd.prog s w he) st (HmbsFU l u i)) l.length ⟨0,by omega,hR,Sub.live ⟨rfl,rfl,rfl,trivial⟩ trivial⟩ ?_
 clear hR f0 f00 K1
 rintro j st ⟨i,hij,hR,hs2⟩
 refine zAA hs2 ?_
 clear hs2
 by_cases hi : i < l.length
 . obtain ⟨j,rfl⟩ : ∃ q,j = q + 1:=⟨j - 1,by omega⟩
   have f1 : decide ((i : Int) < (l.length : Nat)) = true:=decide_eq_true (by omega)
   have hR' : R = (mbY litW u (gD l i) && zAq (mbY litW u) l j (i + 1)):=hR
   clear hR
   have h1:=zA6 ((gD l i).f 0).s
   have h2:=zDM ((gD l i).f 1).l
   have e : mbY litW u (gD l i) = (nameB ((gD l i).f 0).s && dirsY litW ((gD l i).f 1).l && (!u || !decide ((((gD l i).f 1).l.length : Int) > 0))):=by
    have hz : decide (((gD l i).f 1).l.length = 0) = !(decide ((((gD l i).f 1).l.length : Int) > 0)):=by
     by_cases h0 : ((gD l i).f 1).l.length = 0
     . rw [decide_eq_true h0,decide_eq_false (by omega)]; rfl
     . rw [decide_eq_false h0,decide_eq_true (by omega)]; rfl
    unfold mbY; rw [hz]
   generalize nameB ((gD l i).f 0).s = a at h1 e
   generalize dirsY litW ((gD l i).f 1).l = b at h2 e
   repeat' (first
|apply s_wanted_pick_t rfl rfl rfl
 . conv => lhs; whnf
 . first | rfl | assumption
 . conv => lhs; whnf
 . first | exact bT1 ‹_› | exact bT2 ‹_› | rfl
|apply zAK rfl rfl rfl
 . conv => lhs; whnf
 . first | rfl | assumption
 . conv => lhs; whnf
 . first | exact bT1 ‹_› | exact bT2 ‹_› | rfl
|apply s_wanted_pick_f rfl rfl rfl
 . conv => lhs; whnf
 . first | rfl | assumption
 . conv => lhs; whnf
 . first | exact bF1 ‹_› | exact bF2 ‹_› | rfl
|apply zAL rfl rfl rfl
 . conv => lhs; whnf
 . first | rfl | assumption
 . conv => lhs; whnf
 . first | exact bF1 ‹_› | exact bF2 ‹_› | rfl
|apply zG
 . conv => lhs; whnf
 . assumption
|apply zF
 . conv => lhs; whnf
 . assumption
|refine ze ?_
|refine zY ?_
|refine zAP ?_
|refine zA ?_
|refine zI ?_
|refine zZ ?_
|refine zW ?_
|refine zi ?_
|apply aw_1
 conv => whnf
 refine ⟨?_,trivial⟩
|apply zn rfl rfl
 . conv => lhs; whnf
 . conv => lhs; whnf
 . first | exact bT1 ‹_› | exact bT2 ‹_›
|apply zl rfl rfl
 . conv => lhs; whnf
 . conv => lhs; whnf
 . first | exact bF1 ‹_› | exact bF2 ‹_›
|apply s_1
 conv => whnf; arg 1; arg 4; arg 3; whnf
 refine ⟨?_,?_⟩
|apply zAF rfl
 . conv => lhs; whnf
 . conv => lhs; whnf; arg 2; whnf
|apply zk rfl
 . conv => lhs; whnf
 . conv => lhs; whnf
 . first | exact h1 | exact h2
|apply zQ rfl
 . conv => lhs; whnf
 . conv => lhs; whnf
 . first | rfl | assumption
 . conv => lhs; whnf; arg 2; whnf
|apply zP rfl
 . conv => lhs; whnf
 . conv => lhs; whnf
 . first | rfl | assumption
 . conv => lhs; whnf
 . first | exact h1 | exact h2
|apply zAB rfl
 . conv => lhs; whnf
 . conv => lhs; whnf
 . first | rfl | assumption
|apply zAm rfl
 . conv => lhs; whnf
 . rfl
 . rfl
|apply zb rfl
 . conv => lhs; whnf
 . conv => lhs; whnf
 . conv => lhs; whnf; arg 2; whnf
|apply zt rfl
 . conv => lhs; whnf
 . conv => lhs; whnf
 . conv => lhs; whnf
 . first | exact h1 | exact h2
|apply zm rfl
 . conv => lhs; whnf
 . conv => lhs; whnf
 . conv => lhs; whnf; arg 2; whnf
|apply zg rfl
 . conv => lhs; whnf
 . conv => lhs; whnf
 . conv => lhs; whnf
 . first | exact h1 | exact h2
|apply zS
 . conv => lhs; whnf; arg 1; arg 1; whnf
|apply zU
 . conv => lhs; whnf; arg 1; arg 1; whnf
|refine zd (by conv => lhs; whnf) ?_ ?_ <;> intro hb
|refine zv ?_
|refine zh ?_
|refine zJ ?_
|refine zK ?_
|refine zH ?_
|refine zE rfl ?_
|refine zM rfl ?_
|refine zL ?_
|refine zO ?_
|refine zC ?_
|refine zN ?_
|refine zAG ?_
|refine zB ?_
|refine ⟨_,by conv => lhs; whnf; arg 2; whnf,?_⟩; conv => rhs; whnf
|exact trivial
|intro hg)
   all_goals first
    | exact zu (by omega)
    | exact zx hi
    | (have e2 : mbY litW u (gD l i) = false:=by
        rw [e]; clear e hR' he
        simp_all
       rw [hR',e2]; rfl)
    | (have e2 : mbY litW u (gD l i) = true:=by
        rw [e]; clear e hR' he
        simp_all
       exact za (j':=j) (by omega) ⟨i + 1,by omega,by rw [hR',e2,Bool.true_and],Sub.live ⟨rfl,rfl,rfl,trivial⟩ trivial⟩)
    | skip
 . obtain rfl : j = 0:=by omega
   have f1 : decide ((i : Int) < (l.length : Nat)) = false:=decide_eq_false (by omega)
   repeat' (first
|apply zG
 . conv => lhs; whnf
 . assumption
|apply zF
 . conv => lhs; whnf
 . assumption
|refine ze ?_
|refine zY ?_
|refine zAP ?_
|refine zA ?_
|refine zI ?_
|refine zZ ?_
|refine zW ?_
|refine zi ?_
|apply aw_1
 conv => whnf
 refine ⟨?_,trivial⟩
|apply zn rfl rfl
 . conv => lhs; whnf
 . conv => lhs; whnf
 . first | exact bT1 ‹_› | exact bT2 ‹_›
|apply zl rfl rfl
 . conv => lhs; whnf
 . conv => lhs; whnf
 . first | exact bF1 ‹_› | exact bF2 ‹_›
|apply s_1
 conv => whnf; arg 1; arg 4; arg 3; whnf
 refine ⟨?_,?_⟩
|apply zAF rfl
 . conv => lhs; whnf
 . conv => lhs; whnf; arg 2; whnf
|apply zk rfl
 . conv => lhs; whnf
 . conv => lhs; whnf
 . first | fail
|apply zQ rfl
 . conv => lhs; whnf
 . conv => lhs; whnf
 . first | rfl | assumption
 . conv => lhs; whnf; arg 2; whnf
|apply zP rfl
 . conv => lhs; whnf
 . conv => lhs; whnf
 . first | rfl | assumption
 . conv => lhs; whnf
 . first | fail
|apply zBM rfl
 . conv => lhs; whnf
 . conv => lhs; whnf
 . first | rfl | assumption
|apply zm rfl
 . conv => lhs; whnf
 . conv => lhs; whnf
 . conv => lhs; whnf; arg 2; whnf
|apply zg rfl
 . conv => lhs; whnf
 . conv => lhs; whnf
 . conv => lhs; whnf
 . first | fail
|apply zS
 . conv => lhs; whnf; arg 1; arg 1; whnf
|apply zU
 . conv => lhs; whnf; arg 1; arg 1; whnf
|refine zd (by conv => lhs; whnf) ?_ ?_ <;> intro hb
|refine zv ?_
|refine zh ?_
|refine zJ ?_
|refine zK ?_
|refine zH ?_
|refine zE rfl ?_
|refine zM rfl ?_
|refine zL ?_
|refine zO ?_
|refine zC ?_
|refine zN ?_
|refine zAG ?_
|refine zB ?_
|refine ⟨_,by conv => lhs; whnf; arg 2; whnf,?_⟩; conv => rhs; whnf
|exact trivial
|intro hg)
   rw [hR]; rfl
end Go.Proofs.YtdlnnlglmifceaaDoor
namespace Go.Proofs.YtdlnnlglmifceaaDoor
open Go.RowKit
set_option linter.unusedSectionVars false
theorem cB {a b : Bool} (h : a = b) : V.c (.bool a) = V.c (.bool b):=by rw [h]
attribute [local irreducible] wpList Calls Code.wp AW AWo OpOk seqK zAf zAj loopK endK AC zAH Yld Sub
attribute [local irreducible] ACB ACX YldG absLexH
end Go.Proofs.YtdlnnlglmifceaaDoor
namespace Go.Proofs.YtdlnnlglmifceaaDoor
open Go.RowKit
attribute [local irreducible] wpList Calls Code.wp
section
variable {X : Cx} {nn : Nat} {st : Vst nn} {ops : Array Oper} {o : Oper}
def gvD (ops : Array Oper) (st : Vst nn) (j : Nat) : Option (Option Bool):=
 match (ops[j]?).bind (·.dst) with
 | some d => match ev st (.tmp d) with | .c (.bool b) => some (some b) | .tup [] => some none | _ => none
 | none => none
def gwD (ops : Array Oper) (o : Oper) (st : Vst nn) : Option Bool:=
 match o.guard with
 | none => some true
 | some (j,want) => (gvD ops st j).map (· == some want)
inductive YldT (X : Cx) (rd wr : List Nat) (o : Oper) (st : Vst nn) : V -> List (Nat × Res) -> Prop where
 | val {p : Prop} {v : V} (h : act1 X.P st.rs (ev st) o.op = .val p v) (hp : p) (hl : inO rd (loads (ev st) o.op) = true) : YldT X rd wr o st v []
 | valW {p : Prop} {v v' : V} (h : act1 X.P st.rs (ev st) o.op = .val p v) (hle : VLe v v') (hp : p) (hl : inO rd (loads (ev st) o.op) = true) : YldT X rd wr o st v' []
 | call {f : FuncId} {args : List V} {v : V} (h : act1 X.P st.rs (ev st) o.op = .call f args) (hc : AC X.e X.P f (outL args) v) : YldT X rd wr o st v []
 | lit {t e : TypeId} {b m : Nat} {parts : Array (Nat × Operand)} {ds : List D} (ho : o.op = .buildSlice t m parts) (he : zAo X.P t = some (e,b)) (hn : m = ds.length) (hs : m * X.P.cellsOf e <= 2 ^ 24) (hp : zCn X.P e (ev st) parts.toList 0 ds) : YldT X rd wr o st (.lit e ds) []
 | pick {c x y : Operand} {b : Bool} (ho : o.op = .pick c x y) (hc : ev st c = .c (.bool b)) : YldT X rd wr o st (bif b then ev st x else ev st y) []
 | callB {f : FuncId} {vargs args : List V} {bs bs' : List Res} {r : V} (ns : List Nat) (h : act1 X.P st.rs (ev st) o.op = .call f vargs) (hc : ACB X.e X.P f args bs r bs') (hnd : ns.Nodup) (ha : renL (φin ns) vargs = args) (hb : ns.map (fun n => (st.rs n).map (renR (φin ns))) = bs.map some)
    (hl : ns.all (fun n => wr.contains n) = true) (hlen : bs'.length = ns.length) : YldT X rd wr o st (renV (φout ns) r) (ns.zip (bs'.map (renR (φout ns))))
 | callR {f : FuncId} {vargs args : List V} {bs : List Res} {r : V} (ns : List Nat) (h : act1 X.P st.rs (ev st) o.op = .call f vargs) (hc : ACB X.e X.P f args bs r bs) (hnd : ns.Nodup) (ha : renL (φin ns) vargs = args) (hb : ns.map st.rs = bs.map some) (hp : ∀ ρ ∈ bs,∀ φ,renR φ ρ = ρ)
    (hl : ns.all (fun n => rd.contains n) = true) : YldT X rd wr o st (renV (φout ns) r) []
 | onlit {t e : TypeId} {b : Nat} {x y : Operand} {l l2 : List D} (ho : o.op = .call { callee:=.builtin .append,args:=#[x,y],argTypes:=#[t,t] }) (he : zAo X.P t = some (e,b)) (hleaf : ∀ d,(cellsV X.P 12 e d).all V.leaf = true)
    (hx : ev st x = .lit e l) (hy : (ev st y).out = .sl e l2) (hp : l.length + l2.length <= maxLen /\ (l.length + l2.length) * b <= 140737488355328) : YldT X rd wr o st (.sl e (l ++ l2)) []
 | app {t e : TypeId} {b k : Nat} {x y : Operand} {l l2 : List D} (hk : wr.contains k = true) (ho : o.op = .call { callee:=.builtin .append,args:=#[x,y],argTypes:=#[t,t] }) (he : zAo X.P t = some (e,b)) (hleaf : ∀ d,(cellsV X.P 12 e d).all V.leaf = true)
    (hx : ev st x = .own k e l) (hr : st.rs k = some (.tok e l.length)) (hy : (ev st y).out = .sl e l2) (hp : 0 < l2.length /\ l.length + l2.length <= maxLen /\ (l.length + l2.length) * b <= 140737488355328) :
    YldT X rd wr o st (.own k e (l ++ l2)) [(k,.tok e (l.length + l2.length))]
 | store {t t' : TypeId} {x y : Operand} {n off : Nat} {vs xs : List V} (hk : wr.contains n = true) (ho : o.op = .store t x y) (hd : o.dst = none) (hx : ev st x = .bx n off) (hr : st.rs n = some (.box t' vs)) (hc : cellsOf (ev st y) = some xs)
    (hs : X.P.cellsOf t = xs.length /\ (X.P.info? t).isSome) (hl : off + xs.length <= vs.length) : YldT X rd wr o st .any [(n,.box t' (splice vs off xs))]
def YldU (X : Cx) (ops : Array Oper) (rd wr : List Nat) (o : Oper) (st : Vst nn) (v : V) (u : List (Nat × Res)) : Prop:=
 (gwD ops o st = some true /\ YldT X rd wr o st v u) \/ (gwD ops o st = some false /\ v = .tup [] /\ u = [])
theorem YldT.congr {rd wr : List Nat} {st st' : Vst nn} {v : V} {u : List (Nat × Res)} (hev : ∀ x ∈ o.op.operands,ev st' x = ev st x) (hrs : ∀ n,rd.contains n = true \/ wr.contains n = true -> st'.rs n = st.rs n) (hact : inO rd (loads (ev st) o.op) = true -> act1 X.P st'.rs (ev st') o.op = act1 X.P st.rs (ev st) o.op)
 (hact2 : ∀ f args,act1 X.P st'.rs (ev st') o.op = .call f args ↔ act1 X.P st.rs (ev st) o.op = .call f args) (h : YldT X rd wr o st v u) : YldT X rd wr o st' v u:=by
 have hloads:=zBl o.op hev
 cases h with
 | val h hp hl => exact .val (by rw [hact hl]; exact h) hp (by rw [hloads]; exact hl)
 | valW h hle hp hl => exact .valW (by rw [hact hl]; exact h) hle hp (by rw [hloads]; exact hl)
 | call h hc => exact .call ((hact2 _ _).2 h) hc
 | lit ho he hn hs hp => exact .lit ho he hn hs (zBW _ _ _ (fun p hp => (hev p.2 (by rw [ho]; simp [Op.operands]; exact ⟨p.1,by simpa using hp⟩)).symm) hp)
 | callB ns h hc hnd ha hb hl hlen =>
   refine .callB ns ((hact2 _ _).2 h) hc hnd ha ?_ hl hlen
   rw [<- hb]
   exact List.map_congr_left fun q hq => by rw [hrs q (.inr (List.all_eq_true.1 hl q hq))]
 | callR ns h hc hnd ha hb hp hl =>
   refine .callR ns ((hact2 _ _).2 h) hc hnd ha ?_ hp hl
   rw [<- hb]
   exact List.map_congr_left fun q hq => hrs q (.inl (List.all_eq_true.1 hl q hq))
 | pick ho hc =>
   rename_i c x y b
   rw [<- hev c (by rw [ho]; simp [Op.operands])] at hc
   rw [<- hev x (by rw [ho]; simp [Op.operands]),<- hev y (by rw [ho]; simp [Op.operands])]
   exact .pick ho hc
 | onlit ho he hleaf hx hy hp =>
   rw [<- hev _ (by rw [ho]; simp [Op.operands,Call.operands])] at hx
   rw [<- hev _ (by rw [ho]; simp [Op.operands,Call.operands])] at hy
   exact .onlit ho he hleaf hx hy hp
 | app hk ho he hleaf hx hr hy hp =>
   rw [<- hev _ (by rw [ho]; simp [Op.operands,Call.operands])] at hx
   rw [<- hev _ (by rw [ho]; simp [Op.operands,Call.operands])] at hy
   exact .app hk ho he hleaf hx (by rw [hrs _ (.inr hk)]; exact hr) hy hp
 | store hk ho hd hx hr hc hs hl =>
   rw [<- hev _ (by rw [ho]; simp [Op.operands])] at hx
   rw [<- hev _ (by rw [ho]; simp [Op.operands])] at hc
   exact .store hk ho hd hx (by rw [hrs _ (.inr hk)]; exact hr) hc hs hl
theorem YldU.of {rd wr : List Nat} {d : Option Tmp} {v v' : V} {u u' : List (Nat × Res)} (hd : ∀ t,d = some t -> t ∉ o.looksAt ops) (hu : Off rd wr u') :
 YldU X ops rd wr o (stp st d v' u') v u ↔ YldU X ops rd wr o st v u:=by
 have hev : ∀ x ∈ o.op.operands,ev (stp st d v' u') x = ev st x:=fun x hx => zEa fun t ht hxt => hd t ht (by
  subst hxt
  exact List.mem_append_left _ (List.mem_filterMap.2 ⟨.tmp t,by simpa using hx,rfl⟩))
 have hloads:=zBl o.op hev
 have hact : inO rd (loads (ev st) o.op) = true -> act1 X.P (stp st d v' u').rs (ev (stp st d v' u')) o.op = act1 X.P st.rs (ev st) o.op:=fun hl => by
  rw [zBi o.op hev,zCS]
  exact zIZ hu _ hl
 have hact2 : ∀ f args,act1 X.P (stp st d v' u').rs (ev (stp st d v' u')) o.op = .call f args ↔ act1 X.P st.rs (ev st) o.op = .call f args:=fun f args => by
  rw [zBi o.op hev]
  cases ho : o.op
  case load t x =>
   have nob : ∀ rs,act1 X.P rs (ev st) (.load t x) ≠ .call f args:=fun rs h => by
    simp only [act1,zEN,zBx] at h
    repeat' (split at h)
    all_goals cases h
   exact ⟨fun h => (nob _ h).elim,fun h => (nob _ h).elim⟩
  case slice t x lo hi mx => cases mx <;> rfl
  all_goals rfl
 have hgv : ∀ j want,o.guard = some (j,want) -> gvD ops (stp st d v' u') j = gvD ops st j:=fun j want hg => by
  unfold gvD
  cases ht : (ops[j]?).bind (·.dst) with
  | none => rfl
  | some t =>
    have : ev (stp st d v' u') (.tmp t) = ev st (.tmp t):=zEa fun q hq hqt => by
     cases hqt
     exact hd t hq (by simp [Oper.looksAt,hg,ht])
    simp only [this]
 have hgw : gwD ops o (stp st d v' u') = gwD ops o st:=by
  unfold gwD
  cases hg : o.guard with
  | none => rfl
  | some jw => simp only [hgv jw.1 jw.2 hg]
 have hrs : ∀ n,rd.contains n = true \/ wr.contains n = true -> (stp st d v' u').rs n = st.rs n:=fun n hn => by
  rw [zCS]; exact zDs hu hn
 unfold YldU
 rw [hgw]
 refine or_congr (and_congr Iff.rfl ⟨fun h => ?_,fun h => ?_⟩) Iff.rfl
 . exact h.congr (fun x hx => (hev x hx).symm) (fun n hn => (hrs n hn).symm) (fun hl => (hact (by rw [hloads] at hl; exact hl)).symm) fun f args => (hact2 f args).symm
 . exact h.congr hev hrs hact hact2
variable {rd wr : Nat -> List Nat}
end
end Go.Proofs.YtdlnnlglmifceaaDoor
namespace Go.Proofs.YtdlnnlglmifceaaDoor
open Go.RowKit
set_option linter.unusedSectionVars false
theorem kind_dec (k : Int) : decide (1 <= k /\ k <= 5) = ((k == 1 || k == 2) || (k == 3 || k == 4) || k == 5):=by
 by_cases h1 : k = 1
 . subst h1; rfl
 by_cases h2 : k = 2
 . subst h2; rfl
 by_cases h3 : k = 3
 . subst h3; rfl
 by_cases h4 : k = 4
 . subst h4; rfl
 by_cases h5 : k = 5
 . subst h5; rfl
 rw [decide_eq_false (by omega),beq_eq_false_iff_ne.2 h1,beq_eq_false_iff_ne.2 h2,beq_eq_false_iff_ne.2 h3,beq_eq_false_iff_ne.2 h4,beq_eq_false_iff_ne.2 h5]; rfl
attribute [local irreducible] wpList Calls Code.wp AW AWo OpOk seqK zAf zAj loopK endK AC zAH Yld Sub
attribute [local irreducible] ACB ACX YldG absLexH YldU
end Go.Proofs.YtdlnnlglmifceaaDoor
namespace Go.Proofs.YtdlnnlglmifceaaDoor
open Go.RowKit
set_option linter.unusedSectionVars false
theorem len_im {n : Nat} {d : D} (h : LenT Tryd.prog (n + 2) 35 d) : (d.f 2).l.length <= maxLen:=
 (LenT.lst (t:=29) (e:=9) (by kernel_rfl) (LenT.fld 2 (fs:=Tryd.prog.fieldsOf 35) (f:=(Tryd.prog.fieldsOf 35)[2]!) (by kernel_rfl) (by kernel_rfl) h)).1
theorem len_defs {n : Nat} {d : D} (h : LenT Tryd.prog (n + 2) 24 d) : ∀ i,i < (d.f 0).l.length -> LenT Tryd.prog n 35 (gD (d.f 0).l i):=
 (LenT.lst (t:=22) (e:=35) (by kernel_rfl) (LenT.fld 0 (fs:=Tryd.prog.fieldsOf 24) (f:=(Tryd.prog.fieldsOf 24)[0]!) (by kernel_rfl) (by kernel_rfl) h)).2 (by decide +kernel)
attribute [local irreducible] wpList Calls Code.wp AW AWo OpOk seqK zAf zAj loopK endK AC zAH Yld Sub
attribute [local irreducible] ACB ACX YldG absLexH YldU
end Go.Proofs.YtdlnnlglmifceaaDoor
