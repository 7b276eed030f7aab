import Derived.Test.YtdlnnlglmifceaaDoorProg
import Derived.KernelRfl
import Derived.Test.YtdlnnlglmifceaaDoorQ25
set_option maxHeartbeats 8000000
set_option maxRecDepth 100000
set_option linter.unusedVariables false
set_option linter.unusedSimpArgs false
namespace Go.Proofs.YtdlnnlglmifceaaDoor
open Go.RowKit
attribute [local irreducible] wpList Calls Code.wp AW AWo OpOk seqK zAf zAj loopK endK AC zAH Yld Sub
def zAS (f : Nat -> List UInt8) (n : Nat) : List D:=(List.range n).map fun i => .str (bs (f i))
theorem zAc (f : Nat -> List UInt8) (n : Nat) : (zAS f n).length = n:=by simp [zAS]
theorem zAN (f : Nat -> List UInt8) (n : Nat) : zAS f (n + 1) = zAS f n ++ [.str (bs (f n))]:=by simp [zAS,List.range_succ]
theorem zBA (f : Nat -> List UInt8) (n : Nat) : txs (zAS f n) = (List.range n).map f:=by
 unfold txs zAS
 rw [List.map_map]
 exact List.map_congr_left fun i _ => zBB _
theorem zCA {l : List D} {x : D} {c : Nat} (h : l.length <= 100000000) (hc : c <= 1000) : 0 < [x].length /\ l.length + [x].length <= maxLen /\ (l.length + [x].length) * c <= 140737488355328:=by
 refine ⟨by simp,by unfold maxLen; simp; omega,?_⟩
 have : (l.length + 1) * c <= 100000001 * 1000:=Nat.mul_le_mul (by omega) hc
 simp only [List.length_cons,List.length_nil,Nat.zero_add]
 omega
theorem at_ok {i n : Nat} (h : decide ((i : Int) < (n : Int)) = true) : 0 <= (i : Int) /\ (i : Int) < (n : Int):=⟨by omega,of_decide_eq_true h⟩
theorem zDg {i n : Nat} (h : decide ((i : Int) < (n : Int)) = true) : i < n:=by have:=of_decide_eq_true h; omega
theorem at_ge {i n : Nat} (h : decide ((i : Int) < (n : Int)) = false) : n <= i:=by have:=of_decide_eq_false h; omega
theorem sz3 {a b : UInt8} {l : List UInt8} {n : Nat} (h : l.length <= n) (hn : n <= 1000000000:=by omega) : ((⟨#[a]⟩ : ByteArray) ++ bs l).size + (⟨#[b]⟩ : ByteArray).size <= maxLen:=by
 simp only [ByteArray.size_append,zAM]
 show 1 + _ + 1 <= _
 unfold maxLen; omega
theorem sz2 {a : UInt8} {l : List UInt8} {n : Nat} (h : l.length <= n) (hn : n <= 1000000000:=by omega) : (⟨#[a]⟩ : ByteArray).size + (bs l).size <= maxLen:=by
 simp only [zAM]
 show 1 + _ <= _
 unfold maxLen; omega
def mI (a b : Nat) : Int:=if (b : Int) < (a : Int) then b else a
theorem mI_eq (a b : Nat) : mI a b = (min a b : Nat):=by unfold mI; split <;> omega
noncomputable def HzL (d : D) (f : Nat -> List UInt8) (i : Nat) : Vst 85:=
 stS 85 [(1,.bx 1 0),(3,.own 3 9 (zAS f i)),(36,.sl 44 (d.f 3).l),(37,.c (.int .i64 (d.f 3).l.length)),(38,.c (.int .i64 i))] [(1,.box 44 (cellsV Tryd.prog 12 44 d)),(3,.tok 9 (zAS f i).length)]
noncomputable def HzO (d : D) (f : Nat -> List UInt8) (i : Nat) : Vst 85:=
 stS 85 [(1,.bx 1 0),(3,.own 3 9 (zAS f i)),(60,.c (.int .i64 (if ((d.f 3).l.length : Int) < ((d.f 4).l.length : Int) then ((d.f 3).l.length : Int) else ((d.f 4).l.length : Int)))),(61,.c (.int .i64 i))] [(1,.box 44 (cellsV Tryd.prog 12 44 d)),(3,.tok 9 (zAS f i).length)]
def goodV : Nat -> D -> Prop
 | 0,_ => True
 | k + 1,d => ((d.f 0).n = 1 -> (d.f 1).n = 0 \/ (d.f 1).n = 1) /\ ∀ i,i < (d.f 3).l.length -> goodV k (gD (d.f 3).l i)
theorem val_items (k : Nat) (d : D) (hw : wideD d) (hb : bulkD d <= 1048576) : (Lib.join ((List.range (d.f 3).l.length).map fun i => valT k (gD (d.f 3).l i)) commaT).length <= 26000000:=by
 have:=zBG (d.f 3).l.length (fun i => valT k (gD (d.f 3).l i)) commaT (fun i => 24 * bulkD (gD (d.f 3).l i)) fun i hi => zBT k _ ((hw.f 3).l i)
 rw [zBU,<- zAy] at this
 have h3:=zAE (d.f 3)
 have h4:=wD_f d 3
 have h5:=zy d
 omega
theorem zG4 (k : Nat) (d : D) (hw : wideD d) (hb : bulkD d <= 1048576) : (Lib.join ((List.range (min (d.f 4).l.length (d.f 3).l.length)).map fun i => tx (gD (d.f 4).l i).s ++ [58,32] ++ valT k (gD (d.f 3).l i)) commaT).length <= 52000000:=by
 have:=zBG (min (d.f 4).l.length (d.f 3).l.length) (fun i => tx (gD (d.f 4).l i).s ++ [58,32] ++ valT k (gD (d.f 3).l i)) commaT (fun i => 24 * bulkD (gD (d.f 4).l i) + 24 * bulkD (gD (d.f 3).l i)) fun i hi => by
  have a:=zBT k (gD (d.f 3).l i) ((hw.f 3).l i)
  have b:=zAv (gD (d.f 4).l i)
  have c:=zy (gD (d.f 4).l i)
  have e:=zBL (gD (d.f 4).l i).s
  have e' : commaT.length = 2:=rfl
  simp only [List.length_append,List.length_cons,List.length_nil]
  omega
 rw [zFi,zBU,zBU] at this
 have a1:=zA5 (fun i => bulkD (gD (d.f 4).l i)) (show min (d.f 4).l.length (d.f 3).l.length <= (d.f 4).l.length by omega)
 have a2:=zA5 (fun i => bulkD (gD (d.f 3).l i)) (show min (d.f 4).l.length (d.f 3).l.length <= (d.f 3).l.length by omega)
 rw [<- zAy] at a1 a2
 have h3:=zAE (d.f 3)
 have h4:=zAE (d.f 4)
 have h5:=wD_f d 3
 have h6:=wD_f d 4
 have h7:=zy d
 omega
theorem val_lens (d : D) (hb : bulkD d <= 1048576) : (d.f 2).s.size <= 1048576 /\ (d.f 3).l.length <= 1048576 /\ (d.f 4).l.length <= 1048576:=by
 have len : ∀ l : List D,l.length <= bulkL l:=fun l => by
  induction l with
  | nil => exact Nat.zero_le _
  | cons x r ih => have:=zA2 x; simp only [List.length_cons,bulkL]; omega
 have h2:=zAv (d.f 2)
 have h3:=zAE (d.f 3)
 have h4:=zAE (d.f 4)
 have h5:=wD_f d 2
 have h6:=wD_f d 3
 have h7:=wD_f d 4
 have h8:=zy d
 have:=len (d.f 3).l
 have:=len (d.f 4).l
 omega
theorem valT_list {k : Nat} {d : D} (h : (d.f 0).n = 5) : valT (k + 1) d = [91] ++ Lib.join ((List.range (d.f 3).l.length).map fun i => valT k (gD (d.f 3).l i)) commaT ++ [93]:=by
 rw [valT,h]; rfl
theorem valT_obj {k : Nat} {d : D} (h : (d.f 0).n = 6) : valT (k + 1) d = [123] ++ Lib.join ((List.range (min (d.f 4).l.length (d.f 3).l.length)).map fun i => tx (gD (d.f 4).l i).s ++ [58,32] ++ valT k (gD (d.f 3).l i)) commaT ++ [125]:=by
 rw [valT,h]; rfl
theorem zC0 : ∀ (k : Nat) (d : D),Dp k d -> wideD d -> goodV k d -> bulkD d <= 1048576 -> AC EN Tryd.prog 10 [.agg (cellsV Tryd.prog 12 44 d)] (.c (.string (bs (valT k d))))
 | 0,_,h,_,_,_ => h.elim
 | k + 1,d,h,hw,hg,hb => by
   obtain ⟨hs,hl3,hl4⟩:=val_lens d hb
   have hn:=(hw.f 1).n
   have hdec:=zHZ (d.f 1).n hn.1 hn.2
   have hq:=quoteP_ac (d.f 2).s hs
   have hit:=val_items k d hw hb
   have hen:=zG4 k d hw hb
   have ih : ∀ i,i < (d.f 3).l.length -> AC EN Tryd.prog 10 [.agg (cellsV Tryd.prog 12 44 (gD (d.f 3).l i))] (.c (.string (bs (valT k (gD (d.f 3).l i))))):=fun i hi =>
    zC0 k _ (h i hi) ((hw.f 3).l i) (hg.2 i hi) (by have:=zBq hi; have:=zy d; omega)
   have hjl:=zCX (zAS (fun i => valT k (gD (d.f 3).l i)) (d.f 3).l.length) [44,32] (by rw [zAc]; omega) (by rw [zBA]; exact Nat.le_trans hit (by omega))
   have hjo:=zCX (zAS (fun i => tx (gD (d.f 4).l i).s ++ [58,32] ++ valT k (gD (d.f 3).l i)) (min (d.f 4).l.length (d.f 3).l.length)) [44,32] (by rw [zAc]; omega) (by rw [zBA]; exact Nat.le_trans hen (by omega))
   refine zV 85 Tryd.func10 rfl rfl rfl rfl ?_
   intro s w he
   repeat' (first
|refine zA ?_
|refine zI ?_
|refine zZ ?_
|refine zW ?_
|refine zi ?_
|apply aw_1
 conv => whnf
 refine ⟨?_,trivial⟩
|apply s_1
 conv => whnf; arg 1; arg 4; arg 3; whnf
 refine ⟨?_,?_⟩
|apply zAF rfl
 . conv => lhs; whnf
 . conv => lhs; whnf; arg 2; whnf
|apply zk rfl
 . conv => lhs; whnf
 . conv => lhs; whnf
 . first | exact hdec | exact hq
|apply zAO rfl rfl rfl rfl
 . conv => lhs; whnf; arg 1; whnf
 . rfl
|apply zAV rfl rfl rfl rfl
 . conv => lhs; whnf; arg 1; whnf
 . rfl
|apply z8 rfl rfl rfl
 . conv => lhs; whnf
 . conv => lhs; whnf; arg 1; whnf
 . conv => lhs; whnf; arg 1; whnf
 . exact ⟨by kernel_rfl,by kernel_rfl⟩
 . rfl
|apply zCM rfl rfl
 . conv => lhs; whnf
 . first | (conv => lhs; whnf; arg 1; whnf)
 . first | exact fun _ => rfl | (intro _; kernel_rfl)
 . conv => lhs; whnf
 . conv => lhs; whnf; arg 1; whnf
 . conv => lhs; whnf
|apply zAu rfl rfl rfl rfl
 . first | (conv => lhs; whnf; arg 1; whnf)
 . first | exact fun _ => rfl | (intro _; kernel_rfl)
 . conv => lhs; whnf
 . conv => lhs; whnf
|apply zBu rfl rfl
 . conv => lhs; whnf
 . first | (conv => lhs; whnf; arg 1; whnf)
|apply zBC rfl rfl
 . conv => lhs; whnf
 . first | (conv => lhs; whnf; arg 1; whnf)
 . conv => lhs; whnf; arg 1; whnf
 . rfl
 . rfl
|apply zBO rfl rfl
 . conv => lhs; whnf
 . first | (conv => lhs; whnf; arg 1; whnf)
 . first | exact fun _ => rfl | (intro _; kernel_rfl)
 . conv => lhs; whnf
 . conv => lhs; whnf
|apply zq (by kernel_rfl) (by kernel_rfl)
|apply zAR
|apply zAQ rfl
 . conv => lhs; whnf
 . conv => lhs; whnf; arg 2; whnf
|apply zAU rfl
 . conv => lhs; whnf
 . conv => lhs; whnf
 . first | exact hdec | exact hq
|apply zAl rfl rfl rfl
 . conv => lhs; whnf
 . rfl
 . rfl
 . conv => lhs; whnf; arg 1; whnf
 . conv => lhs; whnf; arg 1; whnf
 . exact ⟨by kernel_rfl,by kernel_rfl⟩
 . rfl
|apply zD4 rfl rfl
 . conv => lhs; whnf
 . first | (conv => lhs; whnf; arg 1; whnf)
 . first | exact fun _ => rfl | (intro _; kernel_rfl)
 . conv => lhs; whnf
 . rfl
 . rfl
 . conv => lhs; whnf; arg 1; whnf
 . conv => lhs; whnf
|apply zCl rfl rfl
 . conv => lhs; whnf
 . first | (conv => lhs; whnf; arg 1; whnf)
|apply zCO rfl rfl
 . conv => lhs; whnf
 . first | (conv => lhs; whnf; arg 1; whnf)
 . conv => lhs; whnf; arg 1; whnf
 . rfl
 . rfl
|apply zB1 rfl rfl
 . conv => lhs; whnf
 . first | (conv => lhs; whnf; arg 1; whnf)
 . first | exact fun _ => rfl | (intro _; kernel_rfl)
 . conv => lhs; whnf
 . conv => lhs; whnf
|exact zR
|exact zX
|exact all_nil
|show List.all _ _ = true; rfl
|show zAC _ _ = true; rfl
|exact ([] : List Nat)
|exact (1000000 : Nat)
|apply zS
 . conv => lhs; whnf; arg 1; arg 1; whnf
|apply zU
 . conv => lhs; whnf; arg 1; arg 1; whnf
|refine zd (by conv => lhs; whnf) ?_ ?_ <;> intro hb
|refine zv ?_
|refine zh ?_
|refine zJ ?_
|refine zK ?_
|refine zH ?_
|refine zE rfl ?_
|refine zM rfl ?_
|refine zL ?_
|refine zO ?_
|refine zC ?_
|refine zN ?_
|refine zAG ?_
|refine zB ?_
|refine ⟨_,by conv => lhs; whnf; arg 2; whnf,?_⟩; conv => rhs; whnf
|exact trivial
|intro hg)
   . rename_i h0
     rw [valT,if_pos (by simpa using h0),if_neg (by have h1 : (d.f 1).n = 0:=by simpa using hb
                                                    rw [h1]; decide)]; rfl
   . rename_i h0
     have h1 : ¬ (d.f 1).n = 0:=by simpa using hb
     rw [valT,if_pos (by simpa using h0),if_pos ((hg.1 (by simpa using h0)).resolve_left h1)]; rfl
   . rename_i h0
     rw [valT,if_neg (by simpa using h0),if_pos (by simpa using hb)]
   . rename_i h0 h1
     rw [valT,if_neg (by simpa using h0),if_neg (by simpa using h1),if_pos (by simpa using hb)]
   . rename_i h0 h1 h2
     rw [valT,if_neg (by simpa using h0),if_neg (by simpa using h1),if_neg (by simpa using h2),if_pos (by simpa using hb),zDf]
   . rename_i h0 h1 h2 h3
     rw [valT,if_neg (by simpa using h0),if_neg (by simpa using h1),if_neg (by simpa using h2),if_neg (by simpa using h3),if_pos (by simpa using hb),<- zAk,zDf]; rfl
   . have : (d.f (0 + 1 + 1)).s.size <= 1048576:=hs
     show 1 + _ <= _
     unfold maxLen; omega
   . have hk : (d.f 0).n = 5:=by simpa using hb
     refine zAA (Sub.own (t:=3) (e:=9) rfl rfl) ?_
     refine z7 (fun j st => ∃ i,i + j = (d.f 3).l.length /\ Sub (cx EN Tryd.prog s w he) st (HzL d (fun i => valT k (gD (d.f 3).l i)) i)) (d.f 3).l.length ⟨0,by omega,?_⟩ ?_
     . exact Sub.live ⟨rfl,rfl,rfl,rfl,rfl,trivial⟩ ⟨rfl,rfl,trivial⟩
     . rintro j st ⟨i,hij,hs2⟩
       refine zAA hs2 ?_
       have htk:=zAc (fun i => valT k (gD (d.f 3).l i)) i
       have ih2:=fun (h : decide ((i : Int) < (d.f 3).l.length) = true) => ih i (by simpa using h)
       have hjl2 : decide ((i : Int) < (d.f 3).l.length) = false -> AC EN Tryd.prog 23 [.sl 9 (zAS (fun i => valT k (gD (d.f 3).l i)) i),.c (.string (bs [44,32]))] (.c (.string (bs (Lib.join (txs (zAS (fun i => valT k (gD (d.f 3).l i)) (d.f 3).l.length)) [44,32])))):=fun h => by
        have e : i = (d.f 3).l.length:=by simp at h; omega
        rw [e]; exact hjl
       repeat' (first
|refine zA ?_
|refine zI ?_
|refine zZ ?_
|refine zW ?_
|refine zi ?_
|apply aw_1
 conv => whnf
 refine ⟨?_,trivial⟩
|apply s_1
 conv => whnf; arg 1; arg 4; arg 3; whnf
 refine ⟨?_,?_⟩
|apply zAF rfl
 . conv => lhs; whnf
 . conv => lhs; whnf; arg 2; whnf
|apply zk rfl
 . conv => lhs; whnf
 . conv => lhs; whnf
 . first | exact ih2 ‹_› | exact hjl2 ‹_›
|apply zAO rfl rfl rfl rfl
 . conv => lhs; whnf; arg 1; whnf
 . rfl
|apply zAV rfl rfl rfl rfl
 . conv => lhs; whnf; arg 1; whnf
 . rfl
|apply z8 rfl rfl rfl
 . conv => lhs; whnf
 . conv => lhs; whnf; arg 1; whnf
 . conv => lhs; whnf; arg 1; whnf
 . exact ⟨by kernel_rfl,by kernel_rfl⟩
 . rfl
|apply zCM rfl rfl
 . conv => lhs; whnf
 . first | exact zo | (conv => lhs; whnf; arg 1; whnf)
 . first | exact fun _ => rfl | (intro _; kernel_rfl)
 . conv => lhs; whnf
 . conv => lhs; whnf; arg 1; whnf
 . conv => lhs; whnf
|apply zAu rfl rfl rfl rfl
 . first | exact zo | (conv => lhs; whnf; arg 1; whnf)
 . first | exact fun _ => rfl | (intro _; kernel_rfl)
 . conv => lhs; whnf
 . conv => lhs; whnf
|apply zBu rfl rfl
 . conv => lhs; whnf
 . first | exact zo | (conv => lhs; whnf; arg 1; whnf)
|apply zBC rfl rfl
 . conv => lhs; whnf
 . first | exact zo | (conv => lhs; whnf; arg 1; whnf)
 . conv => lhs; whnf; arg 1; whnf
 . rfl
 . rfl
|apply zBO rfl rfl
 . conv => lhs; whnf
 . first | exact zo | (conv => lhs; whnf; arg 1; whnf)
 . first | exact fun _ => rfl | (intro _; kernel_rfl)
 . conv => lhs; whnf
 . conv => lhs; whnf
|apply zq (by kernel_rfl) (by kernel_rfl)
|apply zAR
|apply zAQ rfl
 . conv => lhs; whnf
 . conv => lhs; whnf; arg 2; whnf
|apply zAU rfl
 . conv => lhs; whnf
 . conv => lhs; whnf
 . first | exact ih2 ‹_› | exact hjl2 ‹_›
|apply zAl rfl rfl rfl
 . conv => lhs; whnf
 . rfl
 . rfl
 . conv => lhs; whnf; arg 1; whnf
 . conv => lhs; whnf; arg 1; whnf
 . exact ⟨by kernel_rfl,by kernel_rfl⟩
 . rfl
|apply zD4 rfl rfl
 . conv => lhs; whnf
 . first | exact zo | (conv => lhs; whnf; arg 1; whnf)
 . first | exact fun _ => rfl | (intro _; kernel_rfl)
 . conv => lhs; whnf
 . rfl
 . rfl
 . conv => lhs; whnf; arg 1; whnf
 . conv => lhs; whnf
|apply zCl rfl rfl
 . conv => lhs; whnf
 . first | exact zo | (conv => lhs; whnf; arg 1; whnf)
|apply zCO rfl rfl
 . conv => lhs; whnf
 . first | exact zo | (conv => lhs; whnf; arg 1; whnf)
 . conv => lhs; whnf; arg 1; whnf
 . rfl
 . rfl
|apply zB1 rfl rfl
 . conv => lhs; whnf
 . first | exact zo | (conv => lhs; whnf; arg 1; whnf)
 . first | exact fun _ => rfl | (intro _; kernel_rfl)
 . conv => lhs; whnf
 . conv => lhs; whnf
|exact zR
|exact zX
|exact all_nil
|show List.all _ _ = true; rfl
|show zAC _ _ = true; rfl
|exact ([] : List Nat)
|exact (1000000 : Nat)
|apply zS
 . conv => lhs; whnf; arg 1; arg 1; whnf
|apply zU
 . conv => lhs; whnf; arg 1; arg 1; whnf
|refine zd (by conv => lhs; whnf) ?_ ?_ <;> intro hb
|refine zv ?_
|refine zh ?_
|refine zJ ?_
|refine zK ?_
|refine zH ?_
|refine zE rfl ?_
|refine zM rfl ?_
|refine zL ?_
|refine zO ?_
|refine zC ?_
|refine zN ?_
|refine zAG ?_
|refine zB ?_
|refine ⟨_,by conv => lhs; whnf; arg 2; whnf,?_⟩; conv => rhs; whnf
|exact trivial
|intro hg)
       . have hi:=zDg hb
         refine za (j':=j - 1) (by omega) ⟨i + 1,by omega,Sub.live ⟨rfl,?_,rfl,rfl,rfl,trivial⟩ ⟨rfl,?_,trivial⟩⟩
         . show V.own 3 _ (zAS _ i ++ [.str (bs _)]) = _
           rw [<- zAN]
         . show some (Res.tok _ ((zAS _ i).length + 1)) = _
           rw [zAN,List.length_append]; rfl
       . exact zu (by omega)
       . exact zCA (by omega) (by omega)
       . exact at_ok hb
       . rw [valT_list hk,zBA,<- zAk,<- zAk]; rfl
       . rw [zBA]; exact sz3 hit
       . rw [zBA]; exact sz2 hit
   . have hk : (d.f 0).n = 6:=by simpa using hb
     refine zAA (Sub.own (t:=3) (e:=9) rfl rfl) ?_
     refine z7 (fun j st => ∃ i,i + j = min (d.f 4).l.length (d.f 3).l.length /\ Sub (cx EN Tryd.prog s w he) st (HzO d (fun i => tx (gD (d.f 4).l i).s ++ [58,32] ++ valT k (gD (d.f 3).l i)) i)) (min (d.f 4).l.length (d.f 3).l.length) ⟨0,by omega,?_⟩ ?_
     . exact Sub.live ⟨rfl,rfl,rfl,rfl,trivial⟩ ⟨rfl,rfl,trivial⟩
     . rintro j st ⟨i,hij,hs2⟩
       refine zAA hs2 ?_
       have htk:=zAc (fun i => tx (gD (d.f 4).l i).s ++ [58,32] ++ valT k (gD (d.f 3).l i)) i
       have hlt : decide ((i : Int) < mI (d.f 4).l.length (d.f 3).l.length) = true -> i < (d.f 3).l.length /\ i < (d.f 4).l.length:=fun h => by
        rw [mI_eq] at h
        have:=zDg h
        omega
       have ih2:=fun (h : decide ((i : Int) < mI (d.f 4).l.length (d.f 3).l.length) = true) => ih i (hlt h).1
       have hjo2 : decide ((i : Int) < mI (d.f 4).l.length (d.f 3).l.length) = false -> AC EN Tryd.prog 23 [.sl 9 (zAS (fun i => tx (gD (d.f 4).l i).s ++ [58,32] ++ valT k (gD (d.f 3).l i)) i),.c (.string (bs [44,32]))] (.c (.string (bs (Lib.join (txs (zAS (fun i => tx (gD (d.f 4).l i).s ++ [58,32] ++ valT k (gD (d.f 3).l i)) (min (d.f 4).l.length (d.f 3).l.length))) [44,32])))):=fun h => by
        rw [mI_eq] at h
        have e : i = min (d.f 4).l.length (d.f 3).l.length:=by have:=at_ge h; omega
        rw [e]; exact hjo
       have hks : i < (d.f 4).l.length -> (gD (d.f 4).l i).s.size <= 1048576:=fun hi => by
        have:=zAv (gD (d.f 4).l i)
        have:=zy (gD (d.f 4).l i)
        have:=zBq hi
        have:=zy d
        omega
       have hvs : i < (d.f 3).l.length -> (valT k (gD (d.f 3).l i)).length <= 26000000:=fun hi => by
        have:=zBT k _ ((hw.f 3).l i)
        have:=zBq hi
        have:=zy d
        omega
       repeat' (first
|refine zA ?_
|refine zI ?_
|refine zZ ?_
|refine zW ?_
|refine zi ?_
|apply aw_1
 conv => whnf
 refine ⟨?_,trivial⟩
|apply s_1
 conv => whnf; arg 1; arg 4; arg 3; whnf
 refine ⟨?_,?_⟩
|apply zAF rfl
 . conv => lhs; whnf
 . conv => lhs; whnf; arg 2; whnf
|apply zk rfl
 . conv => lhs; whnf
 . conv => lhs; whnf
 . first | exact ih2 ‹_› | exact hjo2 ‹_›
|apply zAO rfl rfl rfl rfl
 . conv => lhs; whnf; arg 1; whnf
 . rfl
|apply zAV rfl rfl rfl rfl
 . conv => lhs; whnf; arg 1; whnf
 . rfl
|apply z8 rfl rfl rfl
 . conv => lhs; whnf
 . conv => lhs; whnf; arg 1; whnf
 . conv => lhs; whnf; arg 1; whnf
 . exact ⟨by kernel_rfl,by kernel_rfl⟩
 . rfl
|apply zCM rfl rfl
 . conv => lhs; whnf
 . first | exact zo | (conv => lhs; whnf; arg 1; whnf)
 . first | exact fun _ => rfl | (intro _; kernel_rfl)
 . conv => lhs; whnf
 . conv => lhs; whnf; arg 1; whnf
 . conv => lhs; whnf
|apply zAu rfl rfl rfl rfl
 . first | exact zo | (conv => lhs; whnf; arg 1; whnf)
 . first | exact fun _ => rfl | (intro _; kernel_rfl)
 . conv => lhs; whnf
 . conv => lhs; whnf
|apply zBu rfl rfl
 . conv => lhs; whnf
 . first | exact zo | (conv => lhs; whnf; arg 1; whnf)
|apply zBC rfl rfl
 . conv => lhs; whnf
 . first | exact zo | (conv => lhs; whnf; arg 1; whnf)
 . conv => lhs; whnf; arg 1; whnf
 . rfl
 . rfl
|apply zBO rfl rfl
 . conv => lhs; whnf
 . first | exact zo | (conv => lhs; whnf; arg 1; whnf)
 . first | exact fun _ => rfl | (intro _; kernel_rfl)
 . conv => lhs; whnf
 . conv => lhs; whnf
|apply zq (by kernel_rfl) (by kernel_rfl)
|apply zAR
|apply zAQ rfl
 . conv => lhs; whnf
 . conv => lhs; whnf; arg 2; whnf
|apply zAU rfl
 . conv => lhs; whnf
 . conv => lhs; whnf
 . first | exact ih2 ‹_› | exact hjo2 ‹_›
|apply zAl rfl rfl rfl
 . conv => lhs; whnf
 . rfl
 . rfl
 . conv => lhs; whnf; arg 1; whnf
 . conv => lhs; whnf; arg 1; whnf
 . exact ⟨by kernel_rfl,by kernel_rfl⟩
 . rfl
|apply zD4 rfl rfl
 . conv => lhs; whnf
 . first | exact zo | (conv => lhs; whnf; arg 1; whnf)
 . first | exact fun _ => rfl | (intro _; kernel_rfl)
 . conv => lhs; whnf
 . rfl
 . rfl
 . conv => lhs; whnf; arg 1; whnf
 . conv => lhs; whnf
|apply zCl rfl rfl
 . conv => lhs; whnf
 . first | exact zo | (conv => lhs; whnf; arg 1; whnf)
|apply zCO rfl rfl
 . conv => lhs; whnf
 . first | exact zo | (conv => lhs; whnf; arg 1; whnf)
 . conv => lhs; whnf; arg 1; whnf
 . rfl
 . rfl
|apply zB1 rfl rfl
 . conv => lhs; whnf
 . first | exact zo | (conv => lhs; whnf; arg 1; whnf)
 . first | exact fun _ => rfl | (intro _; kernel_rfl)
 . conv => lhs; whnf
 . conv => lhs; whnf
|exact zR
|exact zX
|exact all_nil
|show List.all _ _ = true; rfl
|show zAC _ _ = true; rfl
|exact ([] : List Nat)
|exact (1000000 : Nat)
|apply zS
 . conv => lhs; whnf; arg 1; arg 1; whnf
|apply zU
 . conv => lhs; whnf; arg 1; arg 1; whnf
|refine zd (by conv => lhs; whnf) ?_ ?_ <;> intro hb
|refine zv ?_
|refine zh ?_
|refine zJ ?_
|refine zK ?_
|refine zH ?_
|refine zE rfl ?_
|refine zM rfl ?_
|refine zL ?_
|refine zO ?_
|refine zC ?_
|refine zN ?_
|refine zAG ?_
|refine zB ?_
|refine ⟨_,by conv => lhs; whnf; arg 2; whnf,?_⟩; conv => rhs; whnf
|exact trivial
|intro hg)
       . refine za (j':=j - 1) (by have:=hlt hb; omega) ⟨i + 1,by have:=hlt hb; omega,Sub.live ⟨rfl,?_,rfl,rfl,trivial⟩ ⟨rfl,?_,trivial⟩⟩
         . show V.own 3 _ (zAS _ i ++ [.str ((gD (d.f 4).l i).s ++ ⟨#[58,32]⟩ ++ bs _)]) = _
           rw [zAN,<- zAk,<- zAk,zDf]; rfl
         . show some (Res.tok _ ((zAS _ i).length + 1)) = _
           rw [zAN,List.length_append]; rfl
       . exact zu (by have:=hlt hb; omega)
       . exact zCA (by have:=hlt hb; omega) (by omega)
       . have h1:=hks (hlt hb).2
         have h2:=hvs (hlt hb).1
         rw [ByteArray.size_append,zAM]
         show (gD (d.f 4).l i).s.size + 2 + _ <= _
         unfold maxLen; omega
       . have:=(hlt hb).1
         exact ⟨by omega,by show (i : Int) < ((d.f 3).l.length : Int); omega⟩
       . have h1:=hks (hlt hb).2
         show (gD (d.f 4).l i).s.size + 2 <= _
         unfold maxLen; omega
       . have:=(hlt hb).2
         exact ⟨by omega,by show (i : Int) < ((d.f 4).l.length : Int); omega⟩
       . rw [valT_obj hk,zBA,<- zAk,<- zAk]; rfl
       . rw [zBA]; exact sz3 hen
       . rw [zBA]; exact sz2 hen
   . rename_i h0 h1 h2 h3 h4 h5
     rw [valT,if_neg (by simpa using h0),if_neg (by simpa using h1),if_neg (by simpa using h2),if_neg (by simpa using h3),if_neg (by simpa using h4),if_neg (by simpa using h5),if_neg (by simpa using hb)]; rfl
structure ArgsOk (k : Nat) (l : List D) : Prop where
 wide : ∀ i,wideD (gD l i)
 bulk : bulkL l <= 1048576
 dp : ∀ i,i < l.length -> Dp k ((gD l i).f 1)
 good : ∀ i,i < l.length -> goodV k ((gD l i).f 1)
structure DirsOk (k : Nat) (l : List D) : Prop where
 wide : ∀ i,wideD (gD l i)
 bulk : bulkL l <= 1048576
 args : ∀ i,i < l.length -> ArgsOk k ((gD l i).f 1).l
theorem zAY (l : List D) : l.length <= bulkL l:=by
 induction l with
 | nil => exact Nat.zero_le _
 | cons x r ih => have:=zA2 x; simp only [List.length_cons,bulkL]; omega
theorem zAx (f : D -> List UInt8) (l : List D) : txs (zAS (fun i => f (gD l i)) l.length) = l.map f:=by
 rw [zBA]
 apply List.ext_getElem (by simp)
 intro i h1 h2
 simp [zBo (l:=l) (i:=i) (by simpa using h1)]
theorem ArgsOk.val {k : Nat} {l : List D} (h : ArgsOk k l) {i : Nat} (hi : i < l.length) : bulkD ((gD l i).f 1) <= 1048576:=by
 have:=zAa hi
 have:=wD_f (gD l i) 1
 have:=zy ((gD l i).f 1)
 have:=zy (gD l i)
 have:=h.bulk
 omega
theorem ArgsOk.name {k : Nat} {l : List D} (h : ArgsOk k l) {i : Nat} (hi : i < l.length) : ((gD l i).f 0).s.size <= 1048576:=by
 have:=zAa hi
 have:=wD_f (gD l i) 0
 have:=zAv ((gD l i).f 0)
 have:=zy (gD l i)
 have:=h.bulk
 omega
theorem ArgsOk.text {k : Nat} {l : List D} (h : ArgsOk k l) {i : Nat} (hi : i < l.length) : (valT k ((gD l i).f 1)).length <= 26000000:=by
 have:=h.val hi
 have:=zBT k ((gD l i).f 1) ((h.wide i).f 1)
 omega
theorem DirsOk.name {k : Nat} {l : List D} (h : DirsOk k l) {i : Nat} (hi : i < l.length) : ((gD l i).f 0).s.size <= 1048576:=by
 have:=zAa hi
 have:=wD_f (gD l i) 0
 have:=zAv ((gD l i).f 0)
 have:=zy (gD l i)
 have:=h.bulk
 omega
theorem DirsOk.par {k : Nat} {l : List D} (h : DirsOk k l) {i : Nat} (hi : i < l.length) : (zGz k ((gD l i).f 1).l).length <= 30000000:=by
 have:=zGy k ((gD l i).f 1).l (h.args i hi).wide
 have:=(h.args i hi).bulk
 omega
theorem ArgsOk.len {k : Nat} {l : List D} (h : ArgsOk k l) : l.length <= 1048576:=Nat.le_trans (zAY l) h.bulk
theorem DirsOk.len {k : Nat} {l : List D} (h : DirsOk k l) : l.length <= 1048576:=Nat.le_trans (zAY l) h.bulk
theorem parT_if (k : Nat) (l : List D) : parT k l = if 0 < l.length then [40] ++ zGz k l ++ [41] else []:=by
 unfold parT
 by_cases h : l.length = 0
 . rw [if_pos h,if_neg (by omega)]
 . rw [if_neg h,if_pos (by omega)]
noncomputable def HdP (k : Nat) (l : List D) (i : Nat) : Vst 53:=
 stS 53 [(3,.own 3 9 (zAS (fun i => dirT k (gD l i)) i)),(10,.sl 64 l),(11,.c (.int .i64 l.length)),(12,.c (.int .i64 i))] [(3,.tok 9 (zAS (fun i => dirT k (gD l i)) i).length)]
noncomputable def HaP (k : Nat) (l : List D) (i m : Nat) : Vst 53:=
 stS 53 [(3,.own 3 9 (zAS (fun i => dirT k (gD l i)) i)),(6,.c (.string (⟨#[64]⟩ ++ ((gD l i).f 0).s))),(7,.own 7 9 (zAS (fun j => argT k (gD ((gD l i).f 1).l j)) m)),(10,.sl 64 l),(11,.c (.int .i64 l.length)),(12,.c (.int .i64 i)),(20,.sl 67 ((gD l i).f 1).l),(21,.c (.int .i64 ((gD l i).f 1).l.length)),(22,.c (.int .i64 m))]
  [(3,.tok 9 (zAS (fun i => dirT k (gD l i)) i).length),(7,.tok 9 (zAS (fun j => argT k (gD ((gD l i).f 1).l j)) m).length)]
theorem dirsP_ac (k : Nat) (l : List D) (h : DirsOk k l) : AC EN Tryd.prog 63 [.sl 64 l] (.c (.string (bs (zHY k l)))):=by
 have hlen:=h.len
 have hds:=zEd k l h.wide
 have hbk:=h.bulk
 have hj:=zCX (zAS (fun i => dirT k (gD l i)) l.length) [32] (by rw [zAc]; omega) (by rw [zAx]; exact Nat.le_trans hds (by omega))
 rw [zAx] at hj
 refine zV 53 Tryd.func63 rfl rfl rfl rfl ?_
 intro s w he
 repeat' (first
|refine zA ?_
|refine zI ?_
|refine zZ ?_
|refine zW ?_
|refine zi ?_
|apply aw_1
 conv => whnf
 refine ⟨?_,trivial⟩
|apply s_1
 conv => whnf; arg 1; arg 4; arg 3; whnf
 refine ⟨?_,?_⟩
|apply zAF rfl
 . conv => lhs; whnf
 . conv => lhs; whnf; arg 2; whnf
|apply zk rfl
 . conv => lhs; whnf
 . conv => lhs; whnf
 . first | fail
|apply zAV rfl rfl rfl rfl
 . conv => lhs; whnf; arg 1; whnf
 . rfl
|apply z8 rfl rfl rfl
 . conv => lhs; whnf
 . conv => lhs; whnf; arg 1; whnf
 . conv => lhs; whnf; arg 1; whnf
 . exact ⟨by kernel_rfl,by kernel_rfl⟩
 . rfl
|apply zCM rfl rfl
 . conv => lhs; whnf
 . first | (conv => lhs; whnf; arg 1; whnf)
 . first | exact fun _ => rfl | (intro _; kernel_rfl)
 . conv => lhs; whnf
 . conv => lhs; whnf; arg 1; whnf
 . conv => lhs; whnf
|apply zAu rfl rfl rfl rfl
 . first | (conv => lhs; whnf; arg 1; whnf)
 . first | exact fun _ => rfl | (intro _; kernel_rfl)
 . conv => lhs; whnf
 . conv => lhs; whnf
|apply zBu rfl rfl
 . conv => lhs; whnf
 . first | (conv => lhs; whnf; arg 1; whnf)
|apply zBC rfl rfl
 . conv => lhs; whnf
 . first | (conv => lhs; whnf; arg 1; whnf)
 . conv => lhs; whnf; arg 1; whnf
 . rfl
 . rfl
|apply zBO rfl rfl
 . conv => lhs; whnf
 . first | (conv => lhs; whnf; arg 1; whnf)
 . first | exact fun _ => rfl | (intro _; kernel_rfl)
 . conv => lhs; whnf
 . conv => lhs; whnf
|apply zq (by kernel_rfl) (by kernel_rfl)
|apply zAR
|apply zAQ rfl
 . conv => lhs; whnf
 . conv => lhs; whnf; arg 2; whnf
|apply zAU rfl
 . conv => lhs; whnf
 . conv => lhs; whnf
 . first | fail
|apply zAl rfl rfl rfl
 . conv => lhs; whnf
 . rfl
 . rfl
 . conv => lhs; whnf; arg 1; whnf
 . conv => lhs; whnf; arg 1; whnf
 . exact ⟨by kernel_rfl,by kernel_rfl⟩
 . rfl
|apply zD4 rfl rfl
 . conv => lhs; whnf
 . first | (conv => lhs; whnf; arg 1; whnf)
 . first | exact fun _ => rfl | (intro _; kernel_rfl)
 . conv => lhs; whnf
 . rfl
 . rfl
 . conv => lhs; whnf; arg 1; whnf
 . conv => lhs; whnf
|apply zCl rfl rfl
 . conv => lhs; whnf
 . first | (conv => lhs; whnf; arg 1; whnf)
|apply zCO rfl rfl
 . conv => lhs; whnf
 . first | (conv => lhs; whnf; arg 1; whnf)
 . conv => lhs; whnf; arg 1; whnf
 . rfl
 . rfl
|apply zB1 rfl rfl
 . conv => lhs; whnf
 . first | (conv => lhs; whnf; arg 1; whnf)
 . first | exact fun _ => rfl | (intro _; kernel_rfl)
 . conv => lhs; whnf
 . conv => lhs; whnf
|exact zR
|exact zX
|exact all_nil
|show List.all _ _ = true; rfl
|show zAC _ _ = true; rfl
|exact ([] : List Nat)
|exact (1000000 : Nat)
|apply zS
 . conv => lhs; whnf; arg 1; arg 1; whnf
|apply zU
 . conv => lhs; whnf; arg 1; arg 1; whnf
|refine zd (by conv => lhs; whnf) ?_ ?_ <;> intro hb
|refine zv ?_
|refine zh ?_
|refine zJ ?_
|refine zK ?_
|refine zH ?_
|refine zE rfl ?_
|refine zM rfl ?_
|refine zL ?_
|refine zO ?_
|refine zC ?_
|refine zN ?_
|refine zAG ?_
|refine zB ?_
|refine ⟨_,by conv => lhs; whnf; arg 2; whnf,?_⟩; conv => rhs; whnf
|exact trivial
|intro hg)
 refine zAA (Sub.own (t:=3) (e:=9) rfl rfl) ?_
 refine z7 (fun j st => ∃ i,i + j = l.length /\ Sub (cx EN Tryd.prog s w he) st (HdP k l i)) l.length ⟨0,by omega,?_⟩ ?_
 . exact Sub.live ⟨rfl,rfl,rfl,rfl,trivial⟩ ⟨rfl,trivial⟩
 . rintro j st ⟨i,hij,hs2⟩
   refine zAA hs2 ?_
   have htk:=zAc (fun i => dirT k (gD l i)) i
   have hj2 : decide ((i : Int) < (l.length : Int)) = false -> AC EN Tryd.prog 23 [.sl 9 (zAS (fun i => dirT k (gD l i)) i),.c (.string (bs [32]))] (.c (.string (bs (zHY k l)))):=fun hh => by
    have e : i = l.length:=by have:=at_ge hh; omega
    rw [e]; exact hj
   have hnm : i < l.length -> ((gD l i).f 0).s.size <= 1048576:=fun hi => h.name hi
   repeat' (first
|refine zA ?_
|refine zI ?_
|refine zZ ?_
|refine zW ?_
|refine zi ?_
|apply aw_1
 conv => whnf
 refine ⟨?_,trivial⟩
|apply s_1
 conv => whnf; arg 1; arg 4; arg 3; whnf
 refine ⟨?_,?_⟩
|apply zAF rfl
 . conv => lhs; whnf
 . conv => lhs; whnf; arg 2; whnf
|apply zk rfl
 . conv => lhs; whnf
 . conv => lhs; whnf
 . first | exact hj2 ‹_›
|apply zAV rfl rfl rfl rfl
 . conv => lhs; whnf; arg 1; whnf
 . rfl
|apply z8 rfl rfl rfl
 . conv => lhs; whnf
 . conv => lhs; whnf; arg 1; whnf
 . conv => lhs; whnf; arg 1; whnf
 . exact ⟨by kernel_rfl,by kernel_rfl⟩
 . rfl
|apply zCM rfl rfl
 . conv => lhs; whnf
 . first | exact zo | (conv => lhs; whnf; arg 1; whnf)
 . first | exact fun _ => rfl | (intro _; kernel_rfl)
 . conv => lhs; whnf
 . conv => lhs; whnf; arg 1; whnf
 . conv => lhs; whnf
|apply zAu rfl rfl rfl rfl
 . first | exact zo | (conv => lhs; whnf; arg 1; whnf)
 . first | exact fun _ => rfl | (intro _; kernel_rfl)
 . conv => lhs; whnf
 . conv => lhs; whnf
|apply zBu rfl rfl
 . conv => lhs; whnf
 . first | exact zo | (conv => lhs; whnf; arg 1; whnf)
|apply zBC rfl rfl
 . conv => lhs; whnf
 . first | exact zo | (conv => lhs; whnf; arg 1; whnf)
 . conv => lhs; whnf; arg 1; whnf
 . rfl
 . rfl
|apply zBO rfl rfl
 . conv => lhs; whnf
 . first | exact zo | (conv => lhs; whnf; arg 1; whnf)
 . first | exact fun _ => rfl | (intro _; kernel_rfl)
 . conv => lhs; whnf
 . conv => lhs; whnf
|apply zq (by kernel_rfl) (by kernel_rfl)
|apply zAR
|apply zAQ rfl
 . conv => lhs; whnf
 . conv => lhs; whnf; arg 2; whnf
|apply zAU rfl
 . conv => lhs; whnf
 . conv => lhs; whnf
 . first | exact hj2 ‹_›
|apply zAl rfl rfl rfl
 . conv => lhs; whnf
 . rfl
 . rfl
 . conv => lhs; whnf; arg 1; whnf
 . conv => lhs; whnf; arg 1; whnf
 . exact ⟨by kernel_rfl,by kernel_rfl⟩
 . rfl
|apply zD4 rfl rfl
 . conv => lhs; whnf
 . first | exact zo | (conv => lhs; whnf; arg 1; whnf)
 . first | exact fun _ => rfl | (intro _; kernel_rfl)
 . conv => lhs; whnf
 . rfl
 . rfl
 . conv => lhs; whnf; arg 1; whnf
 . conv => lhs; whnf
|apply zCl rfl rfl
 . conv => lhs; whnf
 . first | exact zo | (conv => lhs; whnf; arg 1; whnf)
|apply zCO rfl rfl
 . conv => lhs; whnf
 . first | exact zo | (conv => lhs; whnf; arg 1; whnf)
 . conv => lhs; whnf; arg 1; whnf
 . rfl
 . rfl
|apply zB1 rfl rfl
 . conv => lhs; whnf
 . first | exact zo | (conv => lhs; whnf; arg 1; whnf)
 . first | exact fun _ => rfl | (intro _; kernel_rfl)
 . conv => lhs; whnf
 . conv => lhs; whnf
|exact zR
|exact zX
|exact all_nil
|show List.all _ _ = true; rfl
|show zAC _ _ = true; rfl
|exact ([] : List Nat)
|exact (1000000 : Nat)
|apply zS
 . conv => lhs; whnf; arg 1; arg 1; whnf
|apply zU
 . conv => lhs; whnf; arg 1; arg 1; whnf
|refine zd (by conv => lhs; whnf) ?_ ?_ <;> intro hb
|refine zv ?_
|refine zh ?_
|refine zJ ?_
|refine zK ?_
|refine zH ?_
|refine zE rfl ?_
|refine zM rfl ?_
|refine zL ?_
|refine zO ?_
|refine zC ?_
|refine zN ?_
|refine zAG ?_
|refine zB ?_
|refine ⟨_,by conv => lhs; whnf; arg 2; whnf,?_⟩; conv => rhs; whnf
|exact trivial
|intro hg)
   . have hi:=zDg hb
     have ha:=h.args i hi
     have hla:=ha.len
     have hpar:=h.par hi
     have hja:=zCX (zAS (fun j => argT k (gD ((gD l i).f 1).l j)) ((gD l i).f 1).l.length) [44,32] (by rw [zAc]; omega) (by rw [zAx]; exact Nat.le_trans hpar (by omega))
     rw [zAx] at hja
     refine zAA (Sub.own (t:=7) (e:=9) rfl rfl) ?_
     refine z7 (fun j st => ∃ m,m + j = ((gD l i).f 1).l.length /\ Sub (cx EN Tryd.prog s w he) st (HaP k l i m)) ((gD l i).f 1).l.length ⟨0,by omega,?_⟩ ?_
     . exact Sub.live ⟨rfl,rfl,rfl,rfl,rfl,rfl,rfl,rfl,rfl,trivial⟩ ⟨rfl,rfl,trivial⟩
     . rintro j2 st2 ⟨m,hmj,hs3⟩
       refine zAA hs3 ?_
       have htk2:=zAc (fun j => argT k (gD ((gD l i).f 1).l j)) m
       have hv : decide ((m : Int) < (((gD l i).f 1).l.length : Int)) = true -> AC EN Tryd.prog 10 [.agg (cellsV Tryd.prog 12 44 ((gD ((gD l i).f 1).l m).f 1))] (.c (.string (bs (valT k ((gD ((gD l i).f 1).l m).f 1))))):=fun hh =>
        zC0 k _ (ha.dp m (zDg hh)) ((ha.wide m).f 1) (ha.good m (zDg hh)) (ha.val (zDg hh))
       have hja2 : decide ((m : Int) < (((gD l i).f 1).l.length : Int)) = false -> AC EN Tryd.prog 23 [.sl 9 (zAS (fun j => argT k (gD ((gD l i).f 1).l j)) m),.c (.string (bs [44,32]))] (.c (.string (bs (zGz k ((gD l i).f 1).l)))):=fun hh => by
        have e : m = ((gD l i).f 1).l.length:=by have:=at_ge hh; omega
        rw [e]; exact hja
       repeat' (first
|refine zA ?_
|refine zI ?_
|refine zZ ?_
|refine zW ?_
|refine zi ?_
|apply aw_1
 conv => whnf
 refine ⟨?_,trivial⟩
|apply s_1
 conv => whnf; arg 1; arg 4; arg 3; whnf
 refine ⟨?_,?_⟩
|apply zAF rfl
 . conv => lhs; whnf
 . conv => lhs; whnf; arg 2; whnf
|apply zk rfl
 . conv => lhs; whnf
 . conv => lhs; whnf
 . first | exact hv ‹_› | exact hja2 ‹_›
|apply zAV rfl rfl rfl rfl
 . conv => lhs; whnf; arg 1; whnf
 . rfl
|apply z8 rfl rfl rfl
 . conv => lhs; whnf
 . conv => lhs; whnf; arg 1; whnf
 . conv => lhs; whnf; arg 1; whnf
 . exact ⟨by kernel_rfl,by kernel_rfl⟩
 . rfl
|apply zCM rfl rfl
 . conv => lhs; whnf
 . first | exact zo | (conv => lhs; whnf; arg 1; whnf)
 . first | exact fun _ => rfl | (intro _; kernel_rfl)
 . conv => lhs; whnf
 . conv => lhs; whnf; arg 1; whnf
 . conv => lhs; whnf
|apply zAu rfl rfl rfl rfl
 . first | exact zo | (conv => lhs; whnf; arg 1; whnf)
 . first | exact fun _ => rfl | (intro _; kernel_rfl)
 . conv => lhs; whnf
 . conv => lhs; whnf
|apply zBu rfl rfl
 . conv => lhs; whnf
 . first | exact zo | (conv => lhs; whnf; arg 1; whnf)
|apply zBC rfl rfl
 . conv => lhs; whnf
 . first | exact zo | (conv => lhs; whnf; arg 1; whnf)
 . conv => lhs; whnf; arg 1; whnf
 . rfl
 . rfl
|apply zBO rfl rfl
 . conv => lhs; whnf
 . first | exact zo | (conv => lhs; whnf; arg 1; whnf)
 . first | exact fun _ => rfl | (intro _; kernel_rfl)
 . conv => lhs; whnf
 . conv => lhs; whnf
|apply zq (by kernel_rfl) (by kernel_rfl)
|apply zAR
|apply zAQ rfl
 . conv => lhs; whnf
 . conv => lhs; whnf; arg 2; whnf
|apply zAU rfl
 . conv => lhs; whnf
 . conv => lhs; whnf
 . first | exact hv ‹_› | exact hja2 ‹_›
|apply zAl rfl rfl rfl
 . conv => lhs; whnf
 . rfl
 . rfl
 . conv => lhs; whnf; arg 1; whnf
 . conv => lhs; whnf; arg 1; whnf
 . exact ⟨by kernel_rfl,by kernel_rfl⟩
 . rfl
|apply zD4 rfl rfl
 . conv => lhs; whnf
 . first | exact zo | (conv => lhs; whnf; arg 1; whnf)
 . first | exact fun _ => rfl | (intro _; kernel_rfl)
 . conv => lhs; whnf
 . rfl
 . rfl
 . conv => lhs; whnf; arg 1; whnf
 . conv => lhs; whnf
|apply zCl rfl rfl
 . conv => lhs; whnf
 . first | exact zo | (conv => lhs; whnf; arg 1; whnf)
|apply zCO rfl rfl
 . conv => lhs; whnf
 . first | exact zo | (conv => lhs; whnf; arg 1; whnf)
 . conv => lhs; whnf; arg 1; whnf
 . rfl
 . rfl
|apply zB1 rfl rfl
 . conv => lhs; whnf
 . first | exact zo | (conv => lhs; whnf; arg 1; whnf)
 . first | exact fun _ => rfl | (intro _; kernel_rfl)
 . conv => lhs; whnf
 . conv => lhs; whnf
|exact zR
|exact zX
|exact all_nil
|show List.all _ _ = true; rfl
|show zAC _ _ = true; rfl
|exact ([] : List Nat)
|exact (1000000 : Nat)
|apply zS
 . conv => lhs; whnf; arg 1; arg 1; whnf
|apply zU
 . conv => lhs; whnf; arg 1; arg 1; whnf
|refine zd (by conv => lhs; whnf) ?_ ?_ <;> intro hb
|refine zv ?_
|refine zh ?_
|refine zJ ?_
|refine zK ?_
|refine zH ?_
|refine zE rfl ?_
|refine zM rfl ?_
|refine zL ?_
|refine zO ?_
|refine zC ?_
|refine zN ?_
|refine zAG ?_
|refine zB ?_
|refine ⟨_,by conv => lhs; whnf; arg 2; whnf,?_⟩; conv => rhs; whnf
|exact trivial
|intro hg)
       . have hm:=zDg hb
         refine za (j':=j2 - 1) (by omega) ⟨m + 1,by omega,Sub.live ⟨rfl,rfl,?_,rfl,rfl,rfl,rfl,rfl,rfl,trivial⟩ ⟨rfl,?_,trivial⟩⟩
         . show V.own 7 _ (zAS _ m ++ [.str (((gD ((gD l i).f 1).l m).f 0).s ++ ⟨#[58,32]⟩ ++ bs _)]) = _
           rw [zAN,argT,<- zAk,<- zAk,zDf]; rfl
         . show some (Res.tok _ ((zAS _ m).length + 1)) = _
           rw [zAN,List.length_append]; rfl
       . exact zu (by have:=zDg hb; omega)
       . exact zCA (by have:=zDg hb; omega) (by omega)
       . have h1:=ha.name (zDg hb)
         have h2:=ha.text (zDg hb)
         (simp only [ByteArray.size_append,zAM,zAI,List.size_toArray,List.length_append,List.length_cons,List.length_nil,maxLen,Nat.reduceAdd,Int.toNat_natCast]; omega)
       . have h1:=ha.name (zDg hb)
         (simp only [ByteArray.size_append,zAM,zAI,List.size_toArray,List.length_append,List.length_cons,List.length_nil,maxLen,Nat.reduceAdd,Int.toNat_natCast]; omega)
       . exact at_ok hb
       . rename_i hb0
         have e : m = ((gD l i).f 1).l.length:=by have:=at_ge hb0; omega
         have hp : 0 < ((gD l i).f 1).l.length:=by rw [htk2] at hb; have:=of_decide_eq_true hb; omega
         refine za (j':=j - 1) (by omega) ⟨i + 1,by omega,Sub.live ⟨?_,rfl,rfl,rfl,trivial⟩ ⟨?_,trivial⟩⟩
         . show V.own 3 _ (zAS _ i ++ [.str (⟨#[64]⟩ ++ ((gD l i).f 0).s ++ (⟨#[40]⟩ ++ bs (zGz k ((gD l i).f 1).l) ++ ⟨#[41]⟩))]) = _
           rw [zAN,dirT,parT_if,if_pos hp,<- zAk,<- zAk,<- zAk,<- zAk,zDf]; rfl
         . show some (Res.tok _ ((zAS _ i).length + 1)) = _
           rw [zAN,List.length_append]; rfl
       . exact zu (by omega)
       . exact zCA (by omega) (by omega)
       . have:=hnm hi
         (simp only [ByteArray.size_append,zAM,zAI,List.size_toArray,List.length_append,List.length_cons,List.length_nil,maxLen,Nat.reduceAdd,Int.toNat_natCast]; omega)
       . (simp only [ByteArray.size_append,zAM,zAI,List.size_toArray,List.length_append,List.length_cons,List.length_nil,maxLen,Nat.reduceAdd,Int.toNat_natCast]; omega)
       . (simp only [ByteArray.size_append,zAM,zAI,List.size_toArray,List.length_append,List.length_cons,List.length_nil,maxLen,Nat.reduceAdd,Int.toNat_natCast]; omega)
       . rename_i hb0
         have e : m = ((gD l i).f 1).l.length:=by have:=at_ge hb0; omega
         have hp : ¬ 0 < ((gD l i).f 1).l.length:=by rw [htk2] at hb; have:=of_decide_eq_false hb; omega
         refine za (j':=j - 1) (by omega) ⟨i + 1,by omega,Sub.live ⟨?_,rfl,rfl,rfl,trivial⟩ ⟨?_,trivial⟩⟩
         . show V.own 3 _ (zAS _ i ++ [.str (⟨#[64]⟩ ++ ((gD l i).f 0).s)]) = _
           rw [zAN,dirT,parT_if,if_neg hp,List.append_nil,<- zAk,zDf]; rfl
         . show some (Res.tok _ ((zAS _ i).length + 1)) = _
           rw [zAN,List.length_append]; rfl
       . exact zu (by omega)
       . exact zCA (by omega) (by omega)
   . have:=hnm (zDg hb)
     show 1 + ((gD l i).f 0).s.size <= _
     unfold maxLen; omega
   . exact at_ok hb
def refB (n : List UInt8) : List D -> List UInt8
 | [] => n
 | d :: ds => if d.n == 1 then refB n ds ++ [33] else [91] ++ refB n ds ++ [93]
theorem zEK (n : List UInt8) : ∀ l,(refB n l).length <= n.length + 2 * l.length
 | [] => by simp [refB]
 | d :: ds => by
   have:=zEK n ds
   unfold refB
   split <;> simp <;> omega
end Go.Proofs.YtdlnnlglmifceaaDoor
namespace Go.Proofs.YtdlnnlglmifceaaDoor
open Go.RowKit
attribute [local irreducible] wpList Calls Code.wp
section
variable {P : Program} {s : Sg} {w w' : World} {pas : Nat -> Prop} {B : Nat} {rs : Nat -> Option Res}
theorem zHK (h : MemOk P pas B rs s w) (cur : Array Value) (e : TypeId) (n : Nat) : Keeps s.F (fun b o => s.F b o \/ (b = w.heap.size /\ o < n)) w (w.alloc (.cells cur e)):=fun b o hF =>
 ⟨(zA9 (w:=w) (h.fx b o hF)).trans rfl,.inl hF⟩
theorem MemOk.tokNew0 (h : MemOk P pas B rs s w) (hB : B <= w.heap.size) {k : Nat} (X : Nat -> Prop) (hX : ∀ q,X q -> q = k) (hf : ∀ q ρ,q ≠ k -> rs q = some ρ -> ∀ n,X n -> ρ.free n = true) {cur : Array Value} {e : TypeId} {c m : Nat} (hc : cur.size = c * P.cellsOf e) (hm : m <= c) (hmx : c <= maxLen)
 (hx : Ext X s w (s.tok k w.heap.size (m * P.cellsOf e) (.slice (some ⟨w.heap.size,0,none⟩) m c) m) (w.alloc (.cells cur e))) :
 MemOk P pas B (updR rs k (.tok e m)) (s.tok k w.heap.size (m * P.cellsOf e) (.slice (some ⟨w.heap.size,0,none⟩) m c) m) (w.alloc (.cells cur e)) where
 fx b o hF:=by
  rcases hF with hF | ⟨rfl,hF⟩
  . rw [zA9 (w:=w) (h.fx b o hF)]; exact h.fx b o hF
  . have : o < cur.size:=by rw [hc]; exact Nat.lt_of_lt_of_le hF (Nat.mul_le_mul_right _ hm)
    have h2:=zBh (w:=w) (t:=e) (Array.getElem?_eq_getElem this)
    exact Option.isSome_iff_exists.2 ⟨_,h2⟩
 ho q ρ hq:=by
  by_cases e' : q = k
  . subst e'
    simp only [updR,if_true] at hq
    cases hq
    refine ⟨by simp [Sg.tok],.inr ⟨w.heap.size,c,cur,by simp [Sg.tok],by simp [Sg.tok],heap_alloc_new w _,hm,hmx,hc,fun o ho hF => ?_⟩⟩
    rcases hF with hF | ⟨_,hF⟩
    . obtain ⟨v,hv⟩:=Option.isSome_iff_exists.1 (h.fx _ o hF)
      have:=block_lt_of_cell hv
      simp at this
    . omega
  . simp only [updR,if_neg e'] at hq
    refine (h.ho q ρ hq).keep hx (fun hXq => e' (hX q hXq)) (by simp [Sg.tok,e']) (by simp [Sg.tok,e']) (fun n hn => hf q ρ e' hq n hn) (fun b hb => Below.heap_alloc w _ _ ((h.ho q ρ hq).lt hb)) (fun b o hb hF => ?_)
    rcases hF with hF | ⟨rfl,_⟩
    . exact hF
    . have:=(h.ho q ρ hq).lt hb; omega
 bs q ρ b hq hb:=by
  by_cases e' : q = k
  . subst e'
    simp only [updR,if_true] at hq
    cases hq
    simp only [Sg.bk,Sg.tok,if_true] at hb
    cases hb; exact .inl hB
  . simp only [updR,if_neg e'] at hq
    rw [zBb e'] at hb
    exact h.bs q ρ b hq hb
 dj q r ρ ρ' b hq hr hqb hrb:=by
  by_cases e1 : q = k <;> by_cases e2 : r = k
  . rw [e1,e2]
  . simp only [updR,if_neg e2] at hr
    rw [zBb e2] at hrb
    subst e1
    simp only [updR,if_true] at hq
    cases hq
    simp only [Sg.bk,Sg.tok,if_true] at hqb
    cases hqb
    have:=(h.ho r ρ' hr).lt hrb
    omega
  . simp only [updR,if_neg e1] at hq
    rw [zBb e1] at hqb
    subst e2
    simp only [updR,if_true] at hr
    cases hr
    simp only [Sg.bk,Sg.tok,if_true] at hrb
    cases hrb
    have:=(h.ho q ρ hq).lt hqb
    omega
  . simp only [updR,if_neg e1] at hq
    simp only [updR,if_neg e2] at hr
    rw [zBb e1] at hqb
    rw [zBb e2] at hrb
    exact h.dj q r ρ ρ' b hq hr hqb hrb
end
section
variable {X : Cx} {nn : Nat} {st : Vst nn} {o : Oper} {K : Vst nn -> Prop}
theorem opOk_lit0 {t e : TypeId} {by_ d : Nat} (ho : o.op = .buildSlice t 0 #[]) (hd : o.dst = some d) (hdl : Nat.ble d 999999 = true) (he : zAo X.P t = some (e,by_))
 (hK : K (((st.kill d).res d (.tok e 0)).put (some d) (.own d e []))) : OpOk X o st K:=by
 intro s w a hI N Q hP hN
 obtain ⟨hu,hlay,i,z,hi,hz,hb,hpos,hzs,hsz⟩:=zB7 he
 have ha : (Instr.buildSlice t 0 #[]).run X.P w = .ok (.slice (some ⟨w.heap.size,0,none⟩) 0 0) (w.alloc (.cells #[] e)):=by
  simp [Instr.buildSlice,run_underlying hu,sizeOf,typeInfo,hi,Instr.fill,newRow]
  have hr0 : Array.map (fun _ : Nat => (default : Value)) (Array.range 0) = #[]:=by apply Array.ext <;> simp
  rw [hr0]
 unfold Oper.wp
 have hrun : (execOp a.eval o).run X.P w = .ok (.value (.slice (some ⟨w.heap.size,0,none⟩) 0 0)) (w.alloc (.cells #[] e)):=by simp [execOp,ho,ha]
 rw [hrun,Oper.upon_value,hd]
 have hI':=hI.kill d
 have hkeep : Keeps s.F (s.tok d w.heap.size (0 * X.P.cellsOf e) (.slice (some ⟨w.heap.size,0,none⟩) 0 0) 0).F w (w.alloc (.cells #[] e)):=zHK hI.mem _ e _
 have hext : Ext (fun m => m = d) s w (s.tok d w.heap.size (0 * X.P.cellsOf e) (.slice (some ⟨w.heap.size,0,none⟩) 0 0) 0) (w.alloc (.cells #[] e)):=
  ⟨hkeep,fun _ _ => rfl,fun q hq => .inl (by simp only [Sg.tok]; rw [if_neg hq])⟩
 have hmem:=hI'.mem.tokNew0 hI.base (k:=d) (fun m => m = d) (fun _ h => h) zGm (cur:=#[]) (c:=0) (m:=0) (by simp) (Nat.le_refl _) (Nat.zero_le _) hext
 refine hN _ _ _ _ (Inv.put (st:=(st.kill d).res d (.tok e 0)) (v:=.own d e []) ⟨hI.sz,fun i hi => ?_,hI.df,hI.fr.trans (zDI w _ _) (q:=fun _ => False) (fun _ h => h.elim),hI.kp.trans hkeep,fun b o hb hnp hF => ?_,hmem,hI.pe.ext hext fun m hm => by subst hm; exact Nat.le_of_ble_eq_true hdl⟩ (some d) ?_) hK
 . exact rel.ext hext _ _ (zBF (hI.tm i hi)).1 fun n hn => by subst hn; exact (zBF (hI.tm i hi)).2
 . rcases hF with hF | ⟨rfl,_⟩
   . exact hI.nf b o hb hnp hF
   . have:=hI.base; omega
 . rw [rel]
   exact ⟨zB3 (l:=[]) (Nat.le_refl _) (Nat.zero_le _) fun k hk => absurd hk (Nat.not_lt_zero k),by simp [Sg.tok],fun _ => by simp [Sg.tok]⟩
theorem zDr {t e : TypeId} {by_ k : Nat} {x y : Operand} {l : List D} (ho : o.op = .call { callee:=.builtin .append,args:=#[x,y],argTypes:=#[t,t] }) (he : zAo X.P t = some (e,by_))
 (hx : ev st x = .own k e l) (hy : (ev st y).out = .sl e []) (hK : K (st.put o.dst (.own k e l))) : OpOk X o st K:=by
 intro s w a hI N Q hP hN
 obtain ⟨hu,hlay,i,z,hi,hz,hb,hsp,hzs,hsz⟩:=zB7 he
 have hxe:=hI.ev x
 rw [hx,rel] at hxe
 obtain ⟨k1,A,c1,hA,hc1,-,-,-⟩:=id hxe.1
 unfold Oper.wp
 have hye:=rel.out _ _ (hI.ev y)
 rw [hy,rel] at hye
 obtain ⟨k2,A2,c2,hy2,-,-,-,-⟩:=hye
 have hrun : (Builtin.append_ #[t,t] o.type #[a.eval x,a.eval y]).run X.P w = .ok (a.eval x) w:=by
  rw [hA,hy2]
  have hsz : (sizeOf e).run X.P w = .ok (X.P.cellsOf e) w:=by simp [sizeOf,typeInfo,hi,hsz]
  have hld : ∀ q,(loadCells q 0).run X.P w = .ok #[] w:=fun q => by simp [loadCells,loadCellsFrom]
  cases A <;> cases A2 <;> simp [Builtin.append_,run_underlying hu,hsz,Builtin.lenOf,Builtin.firstCells,storeCells,hld,Nat.not_lt.2 hc1]
 rw [zBP ho hrun,Oper.upon_value]
 refine hN _ _ _ _ (hI.put o.dst ?_) hK
 rw [rel]
 exact hxe
theorem res_same0 {k : Nat} {ρ : Res} (h : st.rs k = some ρ) : st.res k ρ = st:=by
 have e : (st.res k ρ).rs = st.rs:=funext fun m => by
  show updR st.rs k ρ m = _
  unfold updR
  split
  . rename_i e; rw [e,h]
  . rfl
 calc st.res k ρ = ⟨(st.res k ρ).tm,(st.res k ρ).rs⟩:=rfl
  _ = st:=by rw [e]; rfl
theorem zGW {t e : TypeId} {by_ k : Nat} {x y : Operand} {l l2 : List D} (ho : o.op = .call { callee:=.builtin .append,args:=#[x,y],argTypes:=#[t,t] }) (he : zAo X.P t = some (e,by_))
 (hleaf : ∀ d,(cellsV X.P 12 e d).all V.leaf = true) (hx : ev st x = .own k e l) (hr : st.rs k = some (.tok e l.length)) (hy : (ev st y).out = .sl e l2) (hlen : l.length + l2.length <= maxLen) (hby : (l.length + l2.length) * by_ <= 140737488355328)
 (hK : K ((st.res k (.tok e (l.length + l2.length))).put o.dst (.own k e (l ++ l2)))) : OpOk X o st K:=by
 rcases Nat.eq_zero_or_pos l2.length with h0 | h0
 . have hl0 : l2 = []:=List.eq_nil_of_length_eq_zero h0
   subst hl0
   rw [List.length_nil,Nat.add_zero,res_same0 hr,List.append_nil] at hK
   exact zDr ho he hx hy hK
 . exact zBD ho he hleaf hx hr hy h0 hlen hby hK
end
end Go.Proofs.YtdlnnlglmifceaaDoor
namespace Go.Proofs.YtdlnnlglmifceaaDoor
open Go.RowKit
attribute [local irreducible] wpList Calls Code.wp
section
variable {X : Cx} {nn : Nat} {st : Vst nn} {ops : Array Oper} {o : Oper}
def Fresh (st : Vst nn) (d : Nat) : Prop:=(∀ i,(st.tm i).free d = true) /\ ∀ m ρ,st.rs m = some ρ -> m ≠ d /\ ρ.free d = true
theorem zFI {d : Nat} (h : Fresh st d) : st.kill d = st:=by
 have e1 : (st.kill d).tm = st.tm:=funext fun i => by
  show zHJ d (st.tm i) = _
  unfold zHJ; rw [if_pos (h.1 i)]
 have e2 : (st.kill d).rs = st.rs:=funext fun m => by
  unfold Vst.kill
  dsimp only
  cases hm : st.rs m with
  | none => split <;> rfl
  | some ρ =>
    have:=h.2 m ρ hm
    rw [if_neg this.1]
    simp [this.2]
 calc st.kill d = ⟨(st.kill d).tm,(st.kill d).rs⟩:=rfl
  _ = st:=by rw [e1,e2]
theorem zHD {t : TypeId} {d : Nat} {vs : List V} {K : Vst nn -> Prop} (ho : o.op = .alloc t) (hd : o.dst = some d) (hdl : Nat.ble d 999999 = true) (hc : zD3 X.P t = some vs) (hf : freeL d vs = true) (hfr : Fresh st d)
 (hK : K ((st.res d (.box t vs)).put (some d) (.bx d 0))) : OpOk X o st K:=by
 refine zDZ ho hd hdl hc hf ?_
 rw [zFI hfr]; exact hK
theorem zGl {d : Nat} {t : Option Tmp} {v : V} {u : List (Nat × Res)} (h : Fresh st d) (hv : v.free d = true) (hu : ∀ p ∈ u,p.1 ≠ d /\ p.2.free d = true) : Fresh (stp st t v u) d:=by
 unfold stp
 have hr : ∀ m ρ,updL st.rs u m = some ρ -> m ≠ d /\ ρ.free d = true:=by
  intro m ρ hm
  induction u with
  | nil => exact h.2 m ρ hm
  | cons x u ih =>
    obtain ⟨k,ρ'⟩:=x
    change (if m = k then some ρ' else updL st.rs u m) = some ρ at hm
    split at hm
    . rename_i e
      cases hm
      have:=hu (k,ρ) (List.mem_cons_self ..)
      exact ⟨by rw [e]; exact this.1,this.2⟩
    . exact ih (fun p hp => hu p (List.mem_cons_of_mem _ hp)) hm
 cases t with
 | none => exact ⟨h.1,hr⟩
 | some t =>
   refine ⟨fun i => ?_,hr⟩
   show (if i = t then v else st.tm i).free d = true
   split
   . exact hv
   . exact h.1 i
theorem fresh_put {d : Nat} {t : Option Tmp} {v : V} (h : Fresh st d) (hv : v.free d = true) : Fresh (st.put t v) d:=zGl (u:=[]) h hv (fun _ hp => by cases hp)
theorem fresh_res {d m : Nat} {ρ : Res} (h : Fresh st d) (hm : Nat.beq m d = false) (hv : ρ.free d = true) : Fresh (st.res m ρ) d:=by
 refine ⟨h.1,fun q ρ' hq => ?_⟩
 change updR st.rs m ρ q = some ρ' at hq
 unfold updR at hq
 split at hq
 . rename_i e
   cases hq
   subst e
   exact ⟨fun e2 => by rw [e2] at hm; simp at hm,hv⟩
 . exact h.2 q ρ' hq
theorem fresh_S {d : Nat} {cs : List (Nat × V)} {R : List (Nat × Res)} (h : (cs.all (fun p => p.2.free d) && R.all fun p => !(Nat.beq p.1 d) && p.2.free d) = true) : Fresh (stS nn cs R) d:=by
 rw [Bool.and_eq_true,List.all_eq_true,List.all_eq_true] at h
 refine ⟨fun i => ?_,fun m ρ hm => ?_⟩
 . simp only [stS]
   split
   . rename_i p hp; exact h.1 p (List.mem_of_find?_eq_some hp)
   . rfl
 . simp only [stS] at hm
   split at hm
   . rename_i p hp
     have he:=List.find?_some hp
     simp at he
     cases hm
     have:=h.2 p (List.mem_of_find?_eq_some hp)
     rw [Bool.and_eq_true] at this
     refine ⟨fun e => ?_,this.2⟩
     rw [he,e] at this
     simp at this
   . cases hm
theorem opOk_lit0F {t e : TypeId} {by_ d : Nat} {K : Vst nn -> Prop} (ho : o.op = .buildSlice t 0 #[]) (hd : o.dst = some d) (hdl : Nat.ble d 999999 = true) (he : zAo X.P t = some (e,by_)) (hfr : Fresh st d)
 (hK : K ((st.res d (.tok e 0)).put (some d) (.own d e []))) : OpOk X o st K:=by
 refine opOk_lit0 ho hd hdl he ?_
 rw [zFI hfr]; exact hK
def nfB (fr : List Nat) (v : V) (u : List (Nat × Res)) : Bool:=fr.all fun d => v.free d && u.all fun p => !(Nat.beq p.1 d) && p.2.free d
inductive YldA (X : Cx) (ops : Array Oper) (fr rd wr : List Nat) (o : Oper) (st : Vst nn) : V -> List (Nat × Res) -> Prop where
 | old {v : V} {u : List (Nat × Res)} (h : YldG X ops rd wr o st v u) (hf : nfB fr v u = true) : YldA X ops fr rd wr o st v u
 | alloc {t : TypeId} {d : Nat} {vs : List V} (hg : o.guard = none) (ho : o.op = .alloc t) (hd : o.dst = some d) (hdl : Nat.ble d 999999 = true) (hc : zD3 X.P t = some vs) (hfd : freeL d vs = true) (hw : wr.contains d = true) (hf : nfB fr (.bx d 0) [(d,.box t vs)] = true) : YldA X ops fr rd wr o st (.bx d 0) [(d,.box t vs)]
 | lit0 {t e : TypeId} {by_ d : Nat} (hg : o.guard = none) (ho : o.op = .buildSlice t 0 #[]) (hd : o.dst = some d) (hdl : Nat.ble d 999999 = true) (he : zAo X.P t = some (e,by_)) (hw : wr.contains d = true) (hf : nfB fr (.own d e []) [(d,.tok e 0)] = true) : YldA X ops fr rd wr o st (.own d e []) [(d,.tok e 0)]
 | app {t e : TypeId} {by_ k : Nat} {x y : Operand} {l l2 : List D} (hg : o.guard = none) (hw : wr.contains k = true) (ho : o.op = .call { callee:=.builtin .append,args:=#[x,y],argTypes:=#[t,t] }) (he : zAo X.P t = some (e,by_)) (hleaf : ∀ d,(cellsV X.P 12 e d).all V.leaf = true)
    (hx : ev st x = .own k e l) (hr : st.rs k = some (.tok e l.length)) (hy : (ev st y).out = .sl e l2) (hp : l.length + l2.length <= maxLen /\ (l.length + l2.length) * by_ <= 140737488355328) (hf : nfB fr (.own k e (l ++ l2)) [(k,.tok e (l.length + l2.length))] = true) :
    YldA X ops fr rd wr o st (.own k e (l ++ l2)) [(k,.tok e (l.length + l2.length))]
theorem YldA.of {fr rd wr : List Nat} {d : Option Tmp} {v v' : V} {u u' : List (Nat × Res)} (hd : ∀ t,d = some t -> t ∉ o.looksAt ops) (hu : Off rd wr u') :
 YldA X ops fr rd wr o (stp st d v' u') v u ↔ YldA X ops fr rd wr o st v u:=by
 have evs : ∀ x ∈ o.op.operands,ev (stp st d v' u') x = ev st x:=fun x hx => zEa fun t ht hxt => hd t ht (by
  subst hxt
  exact List.mem_append_left _ (List.mem_filterMap.2 ⟨.tmp t,by simpa using hx,rfl⟩))
 have hrs : ∀ n,wr.contains n = true -> (stp st d v' u').rs n = st.rs n:=fun n hn => by
  rw [zCS]; exact zDs hu (.inr hn)
 constructor
 . intro h
   cases h with
   | old h hf => exact .old ((YldG.of hd hu).1 h) hf
   | alloc hg ho hd' hdl hc hfd hw hf => exact .alloc hg ho hd' hdl hc hfd hw hf
   | lit0 hg ho hd' hdl he hw hf => exact .lit0 hg ho hd' hdl he hw hf
   | app hg hw ho he hleaf hx hr hy hp hf =>
     rw [evs _ (by rw [ho]; simp [Op.operands,Call.operands])] at hx
     rw [evs _ (by rw [ho]; simp [Op.operands,Call.operands])] at hy
     rw [hrs _ hw] at hr
     exact .app hg hw ho he hleaf hx hr hy hp hf
 . intro h
   cases h with
   | old h hf => exact .old ((YldG.of hd hu).2 h) hf
   | alloc hg ho hd' hdl hc hfd hw hf => exact .alloc hg ho hd' hdl hc hfd hw hf
   | lit0 hg ho hd' hdl he hw hf => exact .lit0 hg ho hd' hdl he hw hf
   | app hg hw ho he hleaf hx hr hy hp hf =>
     rw [<- evs _ (by rw [ho]; simp [Op.operands,Call.operands])] at hx
     rw [<- evs _ (by rw [ho]; simp [Op.operands,Call.operands])] at hy
     rw [<- hrs _ hw] at hr
     exact .app hg hw ho he hleaf hx hr hy hp hf
theorem YldA.names {fr rd wr : List Nat} {v : V} {u : List (Nat × Res)} (h : YldA X ops fr rd wr o st v u) : ∀ p ∈ u,wr.contains p.1 = true:=by
 cases h with
 | old h hf => exact h.names
 | alloc hg ho hd' hdl hc hfd hw hf => exact fun p hp => by simp at hp; subst hp; exact hw
 | lit0 hg ho hd' hdl he hw hf => exact fun p hp => by simp at hp; subst hp; exact hw
 | app hg hw ho he hleaf hx hr hy hp hf => exact fun p hp => by simp at hp; subst hp; exact hw
theorem YldA.nf {fr rd wr : List Nat} {v : V} {u : List (Nat × Res)} (h : YldA X ops fr rd wr o st v u) : nfB fr v u = true:=by
 cases h with
 | old h hf => exact hf
 | alloc hg ho hd' hdl hc hfd hw hf => exact hf
 | lit0 hg ho hd' hdl he hw hf => exact hf
 | app hg hw ho he hleaf hx hr hy hp hf => exact hf
theorem nfB_ok {fr : List Nat} {v : V} {u : List (Nat × Res)} (h : nfB fr v u = true) {d : Nat} (hd : d ∈ fr) : v.free d = true /\ ∀ p ∈ u,p.1 ≠ d /\ p.2.free d = true:=by
 have:=List.all_eq_true.1 h d hd
 rw [Bool.and_eq_true,List.all_eq_true] at this
 refine ⟨this.1,fun p hp => ?_⟩
 have h2:=this.2 p hp
 rw [Bool.and_eq_true] at h2
 exact ⟨fun e => by rw [e] at h2; simp at h2,h2.2⟩
variable {fr rd wr : Nat -> List Nat}
def aOpH (X : Cx) (ops : Array Oper) (fr rd wr : Nat -> List Nat) (i : Nat) (K : Vst nn -> Prop) (st : Vst nn) : Prop:=
 match ops[i]? with
 | none => K st
 | some o => ∃ v u,YldA X ops (fr i) (rd i) (wr i) o st v u /\ K (stp st o.dst v u)
theorem aOpH_mono {i : Nat} {K K' : Vst nn -> Prop} (h : ∀ st,K st -> K' st) (hh : aOpH X ops fr rd wr i K st) : aOpH X ops fr rd wr i K' st:=by
 unfold aOpH at *
 split
 . rename_i hn; simp only [hn] at hh; exact h _ hh
 . rename_i o ho
   simp only [ho] at hh
   obtain ⟨v,u,h1,h2⟩:=hh
   exact ⟨v,u,h1,h _ h2⟩
def absAnyH (X : Cx) (ops : Array Oper) (fr rd wr : Nat -> List Nat) (Q : Vst nn -> Prop) : Nat -> Array Bool -> Vst nn -> Prop
 | 0,listed,st => Region.ready .any ops listed = [] /\ Q st
 | fuel + 1,listed,st => (Region.ready .any ops listed = [] -> Q st) /\ ∀ i ∈ Region.ready .any ops listed,aOpH X ops fr rd wr i (absAnyH X ops fr rd wr Q fuel (listed.setIfInBounds i true)) st
theorem aOpH_put {i j : Nat} {oi oj : Oper} {v : V} {u : List (Nat × Res)} (hj : ops[j]? = some oj) (hap : oi.apart ops oj = true) (hn : zEx (wr i) (rd j) = true /\ zEx (wr i) (wr j) = true /\ zEx (wr j) (rd i) = true) {K : Vst nn -> Prop} (hy : YldA X ops (fr i) (rd i) (wr i) oi st v u) (h : aOpH X ops fr rd wr j K (stp st oi.dst v u)) :
 aOpH X ops fr rd wr j (fun st' => YldA X ops (fr i) (rd i) (wr i) oi st' v u /\ K (stp st' oi.dst v u)) st:=by
 obtain ⟨h1,h2,h3⟩:=Oper.apart_spec hap
 unfold aOpH at *
 simp only [hj] at *
 obtain ⟨v',u',hy',hK⟩:=h
 have hu : Off (rd j) (wr j) u:=fun p hp => by
  have hw:=hy.names p hp
  refine ⟨?_,?_⟩
  . cases hq : (rd j).contains p.1
    . rfl
    . exact (zDK hn.1 hw hq).elim
  . cases hq : (wr j).contains p.1
    . rfl
    . exact (zDK hn.2.1 hw hq).elim
 have hyj : YldA X ops (fr j) (rd j) (wr j) oj st v' u':=(YldA.of h1 hu).1 hy'
 have hu' : Off (rd i) (wr i) u':=fun p hp => by
  have hw:=hyj.names p hp
  refine ⟨?_,?_⟩
  . cases hq : (rd i).contains p.1
    . rfl
    . exact (zDK hn.2.2 hw hq).elim
  . cases hq : (wr i).contains p.1
    . rfl
    . exact (zDK hn.2.1 hq hw).elim
 have huu : ∀ p ∈ u,∀ q ∈ u',p.1 ≠ q.1:=fun p hp q hq e => by
  have h5:=hy.names p hp
  have h6:=hyj.names q hq
  rw [<- e] at h6
  exact zDK hn.2.1 h5 h6
 exact ⟨v',u',hyj,(YldA.of h3 hu').2 hy,by rw [<- stp_commG h2 huu]; exact hK⟩
theorem zGE {Q : Vst nn -> Prop} {i : Nat} {oi : Oper} {v : V} {u : List (Nat × Res)} (hi : ops[i]? = some oi) (hN : zHz ops rd wr = true) :
 ∀ (fuel : Nat) (listed : Array Bool) (st : Vst nn),Closed ops listed -> (∀ j,j < i -> listed.getD j false = true) ->
   (∀ j oj,ops[j]? = some oj -> j ≠ i -> listed.getD j true = false -> (∀ e ∈ oj.after,Region.binds .any e = true -> e.on ≠ i) -> oi.apart ops oj = true) ->
   i ∈ Region.ready .any ops listed -> YldA X ops (fr i) (rd i) (wr i) oi st v u ->
   absAnyH X ops fr rd wr Q fuel (listed.setIfInBounds i true) (stp st oi.dst v u) -> absAnyH X ops fr rd wr Q (fuel + 1) listed st:=by
 intro fuel
 induction fuel with
 | zero =>
   intro listed st _ _ _ hr hy H
   refine ⟨fun h => (by rw [h] at hr; cases hr),fun j hj => ?_⟩
   by_cases hji : j = i
   . subst hji; unfold aOpH; simp only [hi]; exact ⟨v,u,hy,H⟩
   . have:=ready_mono hj hji
     rw [H.1] at this
     cases this
 | succ fuel ih =>
   intro listed st hcl hlow hfree hr hy H
   refine ⟨fun h => (by rw [h] at hr; cases hr),fun j hj => ?_⟩
   by_cases hji : j = i
   . subst hji; unfold aOpH; simp only [hi]; exact ⟨v,u,hy,H⟩
   . have h1:=H.2 j (ready_mono hj hji)
     obtain ⟨hjun,oj,hoj,hall⟩:=mem_ready.1 hj
     have hiun:=(mem_ready.1 hr).1
     have hnot : ∀ e ∈ oj.after,Region.binds .any e = true -> e.on ≠ i:=fun e he hb heq => by
      have h1:=hall e he hb
      rw [heq] at h1
      exact zCE hiun h1
     have hij : i < j:=by
      rcases Nat.lt_trichotomy i j with h | h | h
      . exact h
      . exact absurd h.symm hji
      . exact (zCE hjun (hlow j h)).elim
     have hsz : j < ops.size:=(Array.getElem?_eq_some_iff.1 hoj).1
     have hnm : zEx (wr i) (rd j) = true /\ zEx (wr i) (wr j) = true /\ zEx (wr j) (rd i) = true:=by
      have h2:=List.all_eq_true.1 (List.all_eq_true.1 hN j (List.mem_range.2 hsz)) i (List.mem_range.2 hij)
      rw [Bool.or_eq_true] at h2
      rcases h2 with h2 | h2
      . simp only [Bool.and_eq_true] at h2; exact ⟨h2.1.1,h2.1.2,h2.2⟩
      . refine (zCE hiun (zFs hcl _ _ (fun k hk => ?_) i (by simpa using h2))).elim
        unfold zGG at hk
        rw [hoj] at hk
        obtain ⟨e,he,rfl⟩:=List.mem_map.1 hk
        obtain ⟨h2,h3⟩:=List.mem_filter.1 he
        exact hall e (by simpa using h2) h3
     have h2:=aOpH_put (i:=i) hoj (hfree j oj hoj hji hjun hnot) hnm hy h1
     have hfree' : ∀ k ok,ops[k]? = some ok -> k ≠ i -> (listed.setIfInBounds j true).getD k true = false ->
      (∀ e ∈ ok.after,Region.binds .any e = true -> e.on ≠ i) -> oi.apart ops ok = true:=fun k ok hk hki hun hno => by
      refine hfree k ok hk hki ?_ hno
      by_cases hjk : j = k
      . subst hjk; exact hjun
      . rw [getD_set_ne true hjk] at hun; exact hun
     refine aOpH_mono (fun st' h3 => ih (listed.setIfInBounds j true) st' (hcl.set hj) (fun k hk => getD_set_true (hlow k hk)) hfree' (ready_mono hr (Ne.symm hji)) h3.1 ?_) h2
     rw [Array.setIfInBounds_comm _ _ hji]
     exact h3.2
def absLexH (X : Cx) (ops : Array Oper) (fr rd wr : Nat -> List Nat) (Q : Vst nn -> Prop) : Nat -> List Oper -> Vst nn -> Prop
 | _,[],st => Q st
 | k,o :: rest,st => ∃ v u,YldA X ops (fr k) (rd k) (wr k) o st v u /\ absLexH X ops fr rd wr Q (k + 1) rest (stp st o.dst v u)
theorem zEt {Q : Vst nn -> Prop} (hN : zHz ops rd wr = true) : ∀ (l : List Oper) (k : Nat) (listed : Array Bool) (st : Vst nn),(∀ j,l[j]? = ops[k + j]?) -> Closed ops listed -> (∀ j,j < k -> listed.getD j false = true) -> listed.size = ops.size ->
 Region.lexFrom .any ops l.length k listed = true -> absLexH X ops fr rd wr Q k l st -> absAnyH X ops fr rd wr Q l.length listed st
 | [],_,_,_,_,_,_,_,hB,h => ⟨by simpa [Region.lexFrom] using hB,h⟩
 | o :: l,k,listed,st,hl,hcl,hlow,hsz,hB,h => by
   have h0 : ops[k]? = some o:=by simpa using (hl 0).symm
   have hk : k < ops.size:=(Array.getElem?_eq_some_iff.1 h0).1
   simp only [List.length_cons,Region.lexFrom,Bool.and_eq_true] at hB
   obtain ⟨⟨hr,hf⟩,hB'⟩:=hB
   have hr : k ∈ Region.ready .any ops listed:=by simpa using hr
   obtain ⟨v,u,hy,hK⟩:=h
   exact zGE h0 hN l.length listed st hcl hlow (Region.free_spec h0 hf) hr hy
    (zEt hN l (k + 1) _ _ (fun j => by have:=hl (j + 1); simpa [Nat.add_assoc,Nat.add_comm 1 j] using this) (hcl.set hr) (fun j hj => by
      by_cases e : j = k
      . subst e; exact zFn (by omega)
      . exact getD_set_true (hlow j (by omega))) (by simpa using hsz) hB' hK)
def frOf (ops : Array Oper) (R : List (Nat × Nat)) (j : Nat) : List Nat:=(R.filter fun p => !(Nat.beq p.1 j) && !(reachS ops ops.size (zGG ops j)).contains p.1).map (·.2)
theorem zCy (R : List (Nat × Nat)) (hR : ∀ i o t d,ops[i]? = some o -> (o.op = .alloc t \/ o.op = .buildSlice t 0 #[]) -> o.dst = some d -> (i,d) ∈ R) {Q : Vst nn -> Prop} {Q' : Exit -> Act -> World -> Prop} (hP : PQ X nn Q') (hQ : ∀ st' s' w' a',Inv X st' s' w' a' -> Q st' -> Q' .normal a' w') : ∀ (fuel : Nat) (listed : Array Bool) (st : Vst nn) (s : Sg) (w : World) (a : Act),Closed ops listed -> (∀ p ∈ R,listed.getD p.1 true = false -> Fresh st p.2) -> Inv X st s w a ->
 absAnyH X ops (frOf ops R) rd wr Q fuel listed st -> wpAny X.P .any ops Q' fuel listed a w
 | 0,_,_,_,_,_,_,_,hI,h => ⟨h.1,hQ _ _ _ _ hI h.2⟩
 | fuel + 1,listed,st,s,w,a,hcl,hfr,hI,h => ⟨fun h0 => hQ _ _ _ _ hI (h.1 h0),fun i hi => by
   have h1:=h.2 i hi
   obtain ⟨hiun,oi,hoi,hall⟩:=mem_ready.1 hi
   unfold aOpH at h1
   unfold wpOp
   simp only [hoi] at h1 |-
   obtain ⟨v,u,hy,hK⟩:=h1
   have hnf:=hy.nf
   have hfr' : ∀ p ∈ R,(listed.setIfInBounds i true).getD p.1 true = false -> Fresh (stp st oi.dst v u) p.2:=fun p hp hl => by
    have hne : p.1 ≠ i:=fun e => by
     rw [e] at hl
     have hsz : i < listed.size \/ ¬ i < listed.size:=Nat.lt_or_ge i listed.size |>.imp id fun h => by omega
     rw [Array.getD_eq_getD_getElem?,Array.getElem?_setIfInBounds] at hl
     rcases hsz with hsz | hsz
     . simp [hsz] at hl
     . simp [hsz] at hl
    have hl2 : listed.getD p.1 true = false:=by rwa [getD_set_ne true (Ne.symm hne)] at hl
    have hmem : p.2 ∈ frOf ops R i:=by
     refine List.mem_map.2 ⟨p,List.mem_filter.2 ⟨hp,?_⟩,rfl⟩
     rw [Bool.and_eq_true]
     refine ⟨by cases hb : Nat.beq p.1 i; rfl; exact (hne (Nat.eq_of_beq_eq_true hb)).elim,?_⟩
     rw [Bool.not_eq_true']
     cases hq : (reachS ops ops.size (zGG ops i)).contains p.1
     . rfl
     . refine (zCE hl2 (zFs hcl _ _ (fun k hk => ?_) p.1 (by simpa using hq))).elim
       unfold zGG at hk
       rw [hoi] at hk
       obtain ⟨e,he,rfl⟩:=List.mem_map.1 hk
       obtain ⟨h2,h3⟩:=List.mem_filter.1 he
       exact hall e (by simpa using h2) h3
    have:=nfB_ok hnf hmem
    exact zGl (hfr p hp hl2) this.1 this.2
   have go : ∀ {st' : Vst nn} {s' w' a'},Inv X st' s' w' a' -> (absAnyH X ops (frOf ops R) rd wr Q fuel (listed.setIfInBounds i true) st' /\ ∀ p ∈ R,(listed.setIfInBounds i true).getD p.1 true = false -> Fresh st' p.2) -> wpAny X.P .any ops Q' fuel (listed.setIfInBounds i true) a' w':=
    fun hI' hK' => zCy R hR hP hQ fuel _ _ _ _ _ (hcl.set hi) hK'.2 hI' hK'.1
   cases hy with
   | old hy hf =>
     rcases hy with ⟨hg,hy⟩ | ⟨hg,rfl,rfl⟩
     . rw [if_pos (zHO hg hI)]
       exact .inl (opOk_yldN (K:=fun st' => absAnyH X ops (frOf ops R) rd wr Q fuel (listed.setIfInBounds i true) st' /\ ∀ p ∈ R,(listed.setIfInBounds i true).getD p.1 true = false -> Fresh st' p.2) hy ⟨hK,hfr'⟩ s w a hI _ _ hP fun st' s' w' a' hI' hK' => go hI' hK')
     . rw [if_neg (by rw [zHO hg hI]; simp)]
       exact go (hI.put oi.dst (by simp [rel])) ⟨hK,hfr'⟩
   | alloc hg ho hd hdl hc hfd hw hf =>
     rename_i t d vs
     rw [if_pos (zHO (by simp [gw,hg]) hI)]
     have hst : stp st oi.dst (.bx d 0) [(d,.box t vs)] = ((st.res d (.box t vs)).put (some d) (.bx d 0)):=by rw [zCq,hd]
     refine .inl (zHD (K:=fun st' => absAnyH X ops (frOf ops R) rd wr Q fuel (listed.setIfInBounds i true) st' /\ ∀ p ∈ R,(listed.setIfInBounds i true).getD p.1 true = false -> Fresh st' p.2) ho hd hdl hc hfd (hfr _ (hR i oi t d hoi (.inl ho) hd) hiun) ?_ s w a hI _ _ hP fun st' s' w' a' hI' hK' => go hI' hK')
     rw [<- hst]
     exact ⟨hK,hfr'⟩
   | lit0 hg ho hd hdl he hw hf =>
     rename_i t e by_ d
     rw [if_pos (zHO (by simp [gw,hg]) hI)]
     have hst : stp st oi.dst (.own d e []) [(d,.tok e 0)] = ((st.res d (.tok e 0)).put (some d) (.own d e [])):=by rw [zCq,hd]
     refine .inl (opOk_lit0F (K:=fun st' => absAnyH X ops (frOf ops R) rd wr Q fuel (listed.setIfInBounds i true) st' /\ ∀ p ∈ R,(listed.setIfInBounds i true).getD p.1 true = false -> Fresh st' p.2) ho hd hdl he (hfr _ (hR i oi t d hoi (.inr ho) hd) hiun) ?_ s w a hI _ _ hP fun st' s' w' a' hI' hK' => go hI' hK')
     rw [<- hst]
     exact ⟨hK,hfr'⟩
   | app hg hw ho he hleaf hx hr hy hp hf =>
     rename_i t e by_ k x y l l2
     rw [if_pos (zHO (by simp [gw,hg]) hI)]
     have hst : stp st oi.dst (.own k e (l ++ l2)) [(k,.tok e (l.length + l2.length))] = ((st.res k (.tok e (l.length + l2.length))).put oi.dst (.own k e (l ++ l2))):=zCq
     refine .inl (zGW (K:=fun st' => absAnyH X ops (frOf ops R) rd wr Q fuel (listed.setIfInBounds i true) st' /\ ∀ p ∈ R,(listed.setIfInBounds i true).getD p.1 true = false -> Fresh st' p.2) ho he hleaf hx hr hy hp.1 hp.2 ?_ s w a hI _ _ hP fun st' s' w' a' hI' hK' => go hI' hK')
     rw [<- hst]
     exact ⟨hK,hfr'⟩⟩
theorem aw_drawH (r w : List (Nat × List Nat)) (R : List (Nat × Nat)) {id : Nat} {l : List Oper} {K : Exit -> Vst nn -> Prop} (hm : X.P.follows .mixedOrders = true) (hB : Region.lexB .any l.toArray = true) (hN : zHz l.toArray (nmf r) (nmf w) = true)
 (hR : ∀ i o t d,l.toArray[i]? = some o -> (o.op = .alloc t \/ o.op = .buildSlice t 0 #[]) -> o.dst = some d -> (i,d) ∈ R) (hF : ∀ p ∈ R,Fresh st p.2) (h : absLexH X l.toArray (frOf l.toArray R) (nmf r) (nmf w) (K .normal) 0 l st) : AW X (.region id l.toArray true) st K:=fun s wd a hI => by
 simp only [Region.lexB,Bool.and_eq_true] at hB
 have hlow : ∀ k,(Array.replicate l.toArray.size false).getD k false = false:=fun k => by
  rw [Array.getD_eq_getD_getElem?,Array.getElem?_replicate]
  split <;> rfl
 refine wp_region_any hm (zCy R hR (rd:=nmf r) (wr:=nmf w) (Q:=K .normal) (fun pv st' s' w' a' hI' hp => ⟨st',s',hI',.inr ⟨pv,rfl,hp⟩⟩) (fun st' s' w' a' hI' hK => ⟨st',s',hI',.inl hK⟩) _ _ st s _ a (fun k o _ hk => by rw [hlow k] at hk; cases hk) (fun p hp _ => hF p hp) hI.drew ?_)
 have:=zEt (X:=X) (fr:=frOf l.toArray R) (rd:=nmf r) (wr:=nmf w) (Q:=K .normal) hN l 0 (Array.replicate l.toArray.size false) st (by simp) (fun k o _ hk => by rw [hlow k] at hk; cases hk) (fun j hj => absurd hj (Nat.not_lt_zero j)) (by simp) (by simpa using hB.2) h
 simpa using this
def allocsB (ops : Array Oper) (R : List (Nat × Nat)) : Bool:=(List.range ops.size).all fun i => match ops[i]? with
 | some o => (match o.op,o.dst with | .alloc _,some d => R.contains (i,d) | .buildSlice _ _ _,some d => R.contains (i,d) | _,_ => true)
 | none => true
theorem allocsB_ok {R : List (Nat × Nat)} (h : allocsB ops R = true) : ∀ i o t d,ops[i]? = some o -> (o.op = .alloc t \/ o.op = .buildSlice t 0 #[]) -> o.dst = some d -> (i,d) ∈ R:=fun i o t d hi ho hd => by
 have:=List.all_eq_true.1 h i (List.mem_range.2 (Array.getElem?_eq_some_iff.1 hi).1)
 rw [hi] at this
 rcases ho with ho | ho
 . simp only [ho,hd] at this
   simpa using this
 . simp only [ho,hd] at this
   simpa using this
theorem zBH (r w : List (Nat × List Nat)) (R : List (Nat × Nat)) {id : Nat} {l : List Oper} {K : Exit -> Vst nn -> Prop} (hm : X.P.follows .mixedOrders = true) (hB : Region.lexB .any l.toArray = true) (hN : zHz l.toArray (nmf r) (nmf w) = true)
 (hA : allocsB l.toArray R = true) (hF : ∀ p ∈ R,Fresh st p.2) (h : absLexH X l.toArray (frOf l.toArray R) (nmf r) (nmf w) (K .normal) 0 l st) : AW X (.region id l.toArray true) st K:=
 aw_drawH r w R hm hB hN (allocsB_ok hA) hF h
section
variable {l : List Oper} {Q : Vst nn -> Prop} {d : Option Tmp} {k : Nat}
theorem zEU (h : Q st) : absLexH X ops fr rd wr Q k [] st:=h
theorem zET {p : Prop} {v : V} (hg : o.guard = none) (hd : o.dst = d) (h : act1 X.P st.rs (ev st) o.op = .val p v) (hf : nfB (fr k) v [] = true) (hK : absLexH X ops fr rd wr Q (k + 1) l (st.put d v)) (hp : p) (hl : inO (rd k) (loads (ev st) o.op) = true) : absLexH X ops fr rd wr Q k (o :: l) st:=
 ⟨v,[],.old (.inl ⟨by simp [gw,hg],.val h hp hl⟩) hf,by rw [hd]; exact hK⟩
theorem zBn {t : TypeId} {m : Nat} {vs : List V} (hg : o.guard = none) (ho : o.op = .alloc t) (hd : o.dst = some m) (hdl : Nat.ble m 999999 = true) (hc : zD3 X.P t = some vs) (hfd : freeL m vs = true) (hw : (wr k).contains m = true) (hf : nfB (fr k) (.bx m 0) [(m,.box t vs)] = true)
 (hK : absLexH X ops fr rd wr Q (k + 1) l ((st.res m (.box t vs)).put (some m) (.bx m 0))) : absLexH X ops fr rd wr Q k (o :: l) st:=
 ⟨_,_,.alloc hg ho hd hdl hc hfd hw hf,by rw [zCq,hd]; exact hK⟩
theorem zBm {t : TypeId} {x y : Operand} {m off : Nat} {t' : TypeId} {vs xs : List V} (hg : o.guard = none) (ho : o.op = .store t x y) (hd : o.dst = none) (hx : ev st x = .bx m off) (hw : (wr k).contains m = true) (hr : st.rs m = some (.box t' vs)) (hc : cellsOf (ev st y) = some xs)
 (hs : X.P.cellsOf t = xs.length /\ (X.P.info? t).isSome) (hl : Nat.ble (off + xs.length) vs.length = true) (hf : nfB (fr k) .any [(m,.box t' (splice vs off xs))] = true) (hK : absLexH X ops fr rd wr Q (k + 1) l (st.res m (.box t' (splice vs off xs)))) : absLexH X ops fr rd wr Q k (o :: l) st:=
 ⟨_,_,.old (.inl ⟨by simp [gw,hg],.store hw ho hd hx hr hc hs (Nat.le_of_ble_eq_true hl)⟩) hf,by rw [hd,zCq]; exact hK⟩
end
end
end Go.Proofs.YtdlnnlglmifceaaDoor
namespace Go.Proofs.YtdlnnlglmifceaaDoor
def sepB (c : UInt8) : Bool:=c == 32 || c == 9 || c == 10 || c == 13 || c == 44
def skipM : Bool -> List UInt8 -> Nat
 | _,[] => 0
 | false,c :: r => if sepB c then skipM false r + 1 else if c == 35 then skipM true r + 1 else 0
 | true,c :: r => if c == 10 || c == 13 then skipM false r + 1 else skipM true r + 1
def letU (c : UInt8) : Bool:=decide (97 <= c.toNat /\ c.toNat <= 122) || decide (65 <= c.toNat /\ c.toNat <= 90) || c == 95
def wrdU (c : UInt8) : Bool:=letU c || digU c
def zC8 (c : UInt8) : Bool:=[33,36,38,40,41,58,61,64,91,93,123,124,125].contains c
def spanN (p : UInt8 -> Bool) : List UInt8 -> Nat
 | [] => 0
 | c :: r => if p c then spanN p r + 1 else 0
def litN : List UInt8 -> Option Nat
 | [] => none
 | [c] => if c == 34 then some 1 else none
 | c :: d :: r => if c == 34 then some 1 else if c == 92 then (litN r).map (· + 2) else (litN (d :: r)).map (· + 1)
structure Tok where
 k : Int
 s : List UInt8
 i : Nat
deriving DecidableEq
def nerU : Lib.NumEnd Int -> Int
 | .ok _ => 0
 | Lib.NumEnd.syntax => 3
 | .range => 4
def zDC (l : List UInt8) : Except Int (Int × List UInt8 × Nat):=
 match l with
 | [] => .error 3
 | c :: r =>
   if zC8 c then .ok (1,[c],1)
   else if c == 46 then (if r.take 2 = [46,46] then .ok (1,[46,46,46],3) else .error 3)
   else if c == 45 || digU c then
    (if nerU (numU (c :: r.take (spanN wrdU r))) = 0 then .ok (3,c :: r.take (spanN wrdU r),spanN wrdU r + 1) else .error (nerU (numU (c :: r.take (spanN wrdU r)))))
   else if letU c then
    (if spanN wrdU r + 1 > 64 then .error 3 else .ok (2,c :: r.take (spanN wrdU r),spanN wrdU r + 1))
   else if c == 34 then
    (match litN r with
    | none => .error 3
    | some n => match zDt (c :: r.take n) with
      | none => .error 3
      | some t => .ok (4,t,n + 1))
   else .error 3
def readT (l : List UInt8) (i : Nat) : Except Int (Tok × Nat):=
 match zDC l with
 | .error e => .error e
 | .ok (k,s,n) => .ok (⟨k,s,i⟩,n)
def scanF : Nat -> List UInt8 -> Nat -> Except (Nat × Int) (List Tok)
 | 0,_,i => .error (i,0)
 | f + 1,l,i =>
   match l.drop (skipM false l) with
   | [] => .ok [⟨5,[],i + l.length⟩]
   | c :: r => match readT (c :: r) (i + skipM false l) with
     | .error e => .error (i + skipM false l,e)
     | .ok (t,n) => match scanF f ((c :: r).drop n) (i + skipM false l + n) with
       | .error e => .error e
       | .ok ts => .ok (t :: ts)
theorem zC7 : ∀ (b : Bool) (l : List UInt8),skipM b l <= l.length
 | b,[] => by cases b <;> simp [skipM]
 | false,c :: r => by
   have h1:=zC7 false r
   have h2:=zC7 true r
   unfold skipM
   split
   . simp; omega
   . split
     . simp; omega
     . simp
 | true,c :: r => by
   have h1:=zC7 false r
   have h2:=zC7 true r
   unfold skipM
   split <;> simp <;> omega
theorem zFl (p : UInt8 -> Bool) : ∀ l,spanN p l <= l.length
 | [] => Nat.le_refl _
 | c :: r => by
   have:=zFl p r
   unfold spanN
   split <;> simp <;> omega
theorem zFx : ∀ (l : List UInt8) (n : Nat),litN l = some n -> 1 <= n /\ n <= l.length
 | [],n,h => by simp [litN] at h
 | [c],n,h => by
   unfold litN at h
   split at h
   . cases h; simp
   . cases h
 | c :: d :: r,n,h => by
   unfold litN at h
   split at h
   . cases h; simp
   . split at h
     . obtain ⟨m,hm,rfl⟩:=Option.map_eq_some_iff.1 h
       have:=zFx r m hm
       simp; omega
     . obtain ⟨m,hm,rfl⟩:=Option.map_eq_some_iff.1 h
       have:=zFx (d :: r) m hm
       simp at this |-; omega
theorem zFr {l : List UInt8} {k : Int} {t : List UInt8} {n : Nat} (h : zDC l = .ok (k,t,n)) : 1 <= n /\ n <= l.length /\ 1 <= k /\ k <= 4:=by
 unfold zDC at h
 split at h
 . cases h
 . rename_i c r
   have hs:=zFl wrdU r
   split at h
   . cases h; simp
   split at h
   . split at h
     . rename_i h3
       cases h
       have : (r.take 2).length = 2:=by rw [h3]; rfl
       rw [List.length_take] at this
       simp; omega
     . cases h
   split at h
   . split at h
     . cases h; simp; omega
     . cases h
   split at h
   . split at h
     . cases h
     . cases h; simp; omega
   split at h
   . split at h
     . cases h
     . rename_i n' hn
       have:=zFx r n' hn
       split at h
       . cases h
       . cases h; simp; omega
   . cases h
structure PS where
 ts : List Tok
 vr : Bool
 nd : Nat
abbrev PR (α : Type):=Except (Nat × Int) (α × PS)
def hdT (x : PS) : Tok:=x.ts.headD ⟨5,[],0⟩
def isS (x : PS) (s : List UInt8) : Bool:=(hdT x).k == 1 && (hdT x).s == s
def nxT (x : PS) : PS:=if (hdT x).k = 5 then x else { x with ts:=x.ts.drop 1 }
def takeQ (s : List UInt8) (x : PS) : PR Unit:=if isS x s = true then .ok ((),nxT x) else .error ((hdT x).i,3)
def zA0 (x : PS) : PR (List UInt8):=if (hdT x).k = 2 then .ok ((hdT x).s,nxT x) else .error ((hdT x).i,3)
def thenQ {α β : Type} (r : PR α) (f : α -> PS -> PR β) : PR β:=
 match r with
 | .error e => .error e
 | .ok (a,x) => f a x
def strD (s : List UInt8) : D:=.str ⟨s.toArray⟩
def valD (k n : Int) (s : List UInt8) (items : List D) (keys : List (List UInt8)) : D:=.obj [.int k,.int n,strD s,.list items,.list (keys.map strD)]
def refD (n : List UInt8) (w : List Int) : D:=.obj [strD n,.list (w.map .int)]
def argD (n : List UInt8) (v : D) : D:=.obj [strD n,v]
def dirD (n : List UInt8) (aa : List D) : D:=.obj [strD n,.list aa]
def selD (k : Int) (al n on : List UInt8) (aa ds ss : List D) : D:=.obj [.int k,strD al,strD n,strD on,.list aa,.list ds,.list ss]
def varD (n : List UInt8) (t : D) (h : Bool) (v : D) : D:=.obj [strD n,t,.bool h,v]
def opD (k : Int) (n : List UInt8) (vs ss : List D) : D:=.obj [.int k,strD n,.list vs,.list ss]
def fragD (n on : List UInt8) (ss : List D) : D:=.obj [strD n,strD on,.list ss]
def zHE : D:=valD 0 0 [] [] []
def zBK : Nat -> PS -> Nat × PS
 | 0,x => (0,x)
 | f + 1,x => if isS x [91] = true then ((zBK f (nxT x)).1 + 1,(zBK f (nxT x)).2) else (0,x)
def closeQ : Nat -> List Int -> PS -> PR (List Int)
 | 0,w,x => .ok (if isS x [33] = true then (1 :: w,nxT x) else (w,x))
 | n + 1,w,x => thenQ (takeQ [93] (if isS x [33] = true then nxT x else x)) fun _ y => closeQ n (2 :: (if isS x [33] = true then 1 :: w else w)) y
def zFG (x : PS) : PR (List UInt8 × List Int):=
 thenQ (zA0 (zBK x.ts.length x).2) fun n y => thenQ (closeQ (zBK x.ts.length x).1 [] y) fun w z => .ok ((n,w),z)
def typQ (x : PS) : PR D:=thenQ (zFG x) fun t y => if t.2.length > 24 then .error ((hdT x).i,5) else .ok (refD t.1 t.2,y)
def numQ (l : List UInt8) : Int:=match numU l with | .ok n => n | _ => 0
def wordV (s : List UInt8) : D:=
 if s = [116,114,117,101] then valD 1 1 [] [] [] else if s = [102,97,108,115,101] then valD 1 0 [] [] [] else if s = [110,117,108,108] then zHE else valD 4 0 s [] []
def zGY (x : PS) : Bool:=(hdT x).k == 5 || ((hdT x).k == 1 && !isS x [91] && !isS x [123] && !(x.vr && isS x [36]))
def zCK (val : PS -> PR D) : Nat -> List D -> PS -> PR (List D)
 | 0,_,x => .error ((hdT x).i,0)
 | f + 1,acc,x => if isS x [93] = true then .ok (acc,nxT x) else thenQ (val x) fun v y => zCK val f (acc ++ [v]) y
def zBa (val : PS -> PR D) : Nat -> List (List UInt8) -> List D -> PS -> PR (List (List UInt8) × List D)
 | 0,_,_,x => .error ((hdT x).i,0)
 | f + 1,ks,acc,x =>
   if isS x [125] = true then .ok ((ks,acc),nxT x)
   else thenQ (zA0 x) fun k y => if ks.contains k = true then .error ((hdT x).i,7) else
    thenQ (takeQ [58] y) fun _ z => thenQ (val z) fun v u => zBa val f (ks ++ [k]) (acc ++ [v]) u
def valueQ : Nat -> Nat -> PS -> PR D
 | 0,_,x => .error ((hdT x).i,0)
 | f + 1,lv,x =>
   if zGY x = true then .error ((hdT x).i,3)
   else if 24 < lv then .error ((hdT x).i,5)
   else if 4096 <= x.nd then .error ((hdT x).i,4)
   else
    let y : PS:={ nxT x with nd:=x.nd + 1 }
    if (hdT x).k = 3 then .ok (valD 2 (numQ (hdT x).s) [] [] [],y)
    else if (hdT x).k = 4 then .ok (valD 3 0 (hdT x).s [] [],y)
    else if (hdT x).k = 2 then .ok (wordV (hdT x).s,y)
    else if (hdT x).s = [36] then thenQ (zA0 y) fun n z => .ok (valD 7 0 n [] [],z)
    else if (hdT x).s = [91] then thenQ (zCK (valueQ f (lv + 1)) (y.ts.length + 1) [] y) fun l z => .ok (valD 5 0 [] l [],z)
    else thenQ (zBa (valueQ f (lv + 1)) (y.ts.length + 1) [] [] y) fun l z => .ok (valD 6 0 [] l.2 l.1,z)
def zCP (x : PS) : PR D:=valueQ 25 1 { x with nd:=0 }
def zG0 : Nat -> List D -> PS -> PR (List D)
 | 0,_,x => .error ((hdT x).i,0)
 | f + 1,acc,x =>
   if acc.length ≠ 0 /\ isS x [41] = true then .ok (acc,nxT x)
   else if (hdT x).k = 2 /\ 16 <= acc.length then .error ((hdT x).i,4)
   else thenQ (zA0 x) fun n y => thenQ (takeQ [58] y) fun _ z => thenQ (zCP z) fun v u => zG0 f (acc ++ [argD n v]) u
def argsQ (x : PS) : PR (List D):=if isS x [40] = true then zG0 x.ts.length [] (nxT x) else .ok ([],x)
def dirsF : Nat -> List D -> PS -> PR (List D)
 | 0,_,x => .error ((hdT x).i,0)
 | f + 1,acc,x =>
   if isS x [64] = true then
    (if 16 <= acc.length then .error ((hdT x).i,4) else thenQ (zA0 (nxT x)) fun n y => thenQ (argsQ y) fun aa z => dirsF f (acc ++ [dirD n aa]) z)
   else .ok (acc,x)
def dirsQ (x : PS) : PR (List D):=dirsF (x.ts.length + 1) [] x
def onT : List UInt8:=[111,110]
def selQ (sels : PS -> PR (List D)) (x : PS) : PR D:=
 if isS x [46,46,46] = true then
  let y:=nxT x
  if (hdT y).k = 2 /\ (hdT y).s ≠ onT then thenQ (dirsQ (nxT y)) fun ds z => .ok (selD 2 [] (hdT y).s [] [] ds [],z)
  else
   thenQ (if (hdT y).k = 2 then zA0 (nxT y) else .ok ([],y)) fun on z =>
    thenQ (dirsQ z) fun ds u => thenQ (sels u) fun ss v => .ok (selD 3 [] [] on [] ds ss,v)
 else
  thenQ (zA0 x) fun n y =>
   thenQ (if isS y [58] = true then thenQ (zA0 (nxT y)) fun m z => .ok ((n,m),z) else .ok (([],n),y)) fun an z =>
    thenQ (argsQ z) fun aa u => thenQ (dirsQ u) fun ds v =>
     thenQ (if isS v [123] = true then sels v else .ok ([],v)) fun ss o => .ok (selD 1 an.1 an.2 [] aa ds ss,o)
def setF (sel : PS -> PR D) : Nat -> List D -> PS -> PR (List D)
 | 0,_,x => .error ((hdT x).i,0)
 | f + 1,acc,x =>
   if acc.length ≠ 0 /\ isS x [125] = true then .ok (acc,nxT x)
   else if ((hdT x).k = 2 \/ isS x [46,46,46] = true) /\ 64 <= acc.length then .error ((hdT x).i,4)
   else thenQ (sel x) fun s y => setF sel f (acc ++ [s]) y
def zFp : Nat -> Nat -> PS -> PR (List D)
 | 0,_,x => .error ((hdT x).i,0)
 | f + 1,lv,x =>
   if isS x [123] = true /\ 24 < lv then .error ((hdT x).i,5)
   else thenQ (takeQ [123] x) fun _ y => setF (selQ (zFp f (lv + 1))) (y.ts.length + 1) [] y
def setQ (x : PS) : PR (List D):=zFp 25 1 x
def varsF : Nat -> List D -> PS -> PR (List D)
 | 0,_,x => .error ((hdT x).i,0)
 | f + 1,acc,x =>
   if acc.length ≠ 0 /\ isS x [41] = true then .ok (acc,nxT x)
   else if isS x [36] = true /\ 16 <= acc.length then .error ((hdT x).i,4)
   else thenQ (takeQ [36] x) fun _ y => thenQ (zA0 y) fun n z => thenQ (takeQ [58] z) fun _ u => thenQ (typQ u) fun t v =>
    thenQ (if isS v [61] = true then thenQ (zCP { nxT v with vr:=false }) fun d o => .ok ((true,d),{ o with vr:=true }) else .ok ((false,zHE),v)) fun d o =>
     varsF f (acc ++ [varD n t d.1 d.2]) o
def opQ (k : Int) (x : PS) : PR D:=
 thenQ (if (hdT x).k = 2 then .ok ((hdT x).s,nxT x) else .ok ([],x)) fun n y =>
  thenQ (if isS y [40] = true then varsF y.ts.length [] (nxT y) else .ok ([],y)) fun vs z =>
   thenQ (setQ z) fun ss u => .ok (opD k n vs ss,u)
def fragQ (x : PS) : PR D:=
 if (hdT x).s = onT then .error ((hdT x).i,3)
 else thenQ (zA0 x) fun n y => if (hdT y).k = 2 /\ (hdT y).s = onT then
  thenQ (zA0 (nxT y)) fun on z => thenQ (setQ z) fun ss u => .ok (fragD n on ss,u)
  else .error ((hdT y).i,3)
inductive Lex : List UInt8 -> List (Int × List UInt8) -> Prop where
 | done {l : List UInt8} (h : l.drop (skipM false l) = []) : Lex l []
 | tok {l : List UInt8} {c : UInt8} {r : List UInt8} {k : Int} {s : List UInt8} {n : Nat} {ks : List (Int × List UInt8)} (h : l.drop (skipM false l) = c :: r) (ht : zDC (c :: r) = .ok (k,s,n)) (hr : Lex ((c :: r).drop n) ks) : Lex l ((k,s) :: ks)
def bare (t : Tok) : Int × List UInt8:=(t.k,t.s)
def endK5 : Int × List UInt8:=(5,[])
theorem readT_any {l : List UInt8} {k : Int} {s : List UInt8} {n : Nat} (h : zDC l = .ok (k,s,n)) (j : Nat) : readT l j = .ok (⟨k,s,j⟩,n):=by
 unfold readT
 rw [h]
theorem Lex.scan {l : List UInt8} {ks : List (Int × List UInt8)} (h : Lex l ks) : ∀ (f i : Nat),l.length < f -> ∃ ts,scanF f l i = .ok ts /\ ts.map bare = ks ++ [endK5]:=by
 induction h with
 | done h =>
   intro f i hf
   cases f with
   | zero => omega
   | succ f =>
     exact ⟨[⟨5,[],i + _⟩],by unfold scanF; rw [h],rfl⟩
 | tok h ht hr ih =>
   rename_i l c r k s n ks
   intro f i hf
   cases f with
   | zero => omega
   | succ f =>
     have hn:=zFr ht
     have hlen : (c :: r).length <= l.length:=by rw [<- h,List.length_drop]; omega
     obtain ⟨ts,h1,h2⟩:=ih f (i + skipM false l + n) (by rw [List.length_drop]; omega)
     refine ⟨⟨k,s,i + skipM false l⟩ :: ts,?_,?_⟩
     . unfold scanF
       rw [h]
       dsimp only
       rw [readT_any ht]
       dsimp only
       rw [h1]
     . rw [List.map_cons,h2]; rfl
def bnd (l : List UInt8) : Prop:=∀ c,l.head? = some c -> wrdU c = false
theorem zGC : bnd []:=fun _ h => by cases h
theorem zAz {c : UInt8} {r : List UInt8} (h : wrdU c = false) : bnd (c :: r):=fun _ e => by cases e; exact h
def Ps (t : List UInt8) (ks : List (Int × List UInt8)) : Prop:=∀ r kr,Lex r kr -> Lex (t ++ r) (ks ++ kr)
def Pw (t : List UInt8) (ks : List (Int × List UInt8)) : Prop:=∀ r kr,bnd r -> Lex r kr -> Lex (t ++ r) (ks ++ kr)
theorem Ps.w {t : List UInt8} {ks : List (Int × List UInt8)} (h : Ps t ks) : Pw t ks:=fun r kr _ hr => h r kr hr
theorem Ps.nil : Ps [] []:=fun _ _ h => h
theorem Ps.app {a b : List UInt8} {ka kb : List (Int × List UInt8)} (h : Ps a ka) (k : Ps b kb) : Ps (a ++ b) (ka ++ kb):=fun r kr hr => by
 rw [List.append_assoc,List.append_assoc]; exact h _ _ (k r kr hr)
theorem Ps.appw {a b : List UInt8} {ka kb : List (Int × List UInt8)} (h : Ps a ka) (k : Pw b kb) : Pw (a ++ b) (ka ++ kb):=fun r kr hb hr => by
 rw [List.append_assoc,List.append_assoc]; exact h _ _ (k r kr hb hr)
theorem Pw.app {a b : List UInt8} {ka kb : List (Int × List UInt8)} (h : Pw a ka) (k : Ps b kb) (hb : b ≠ [] /\ bnd b) : Ps (a ++ b) (ka ++ kb):=fun r kr hr => by
 rw [List.append_assoc,List.append_assoc]
 refine h _ _ (fun c hc => hb.2 c ?_) (k r kr hr)
 cases b with
 | nil => exact (hb.1 rfl).elim
 | cons x y => exact hc
theorem Pw.appw {a b : List UInt8} {ka kb : List (Int × List UInt8)} (h : Pw a ka) (k : Pw b kb) (hb : bnd b) : Pw (a ++ b) (ka ++ kb):=fun r kr hr hl => by
 rw [List.append_assoc,List.append_assoc]
 refine h _ _ (fun c hc => ?_) (k r kr hr hl)
 cases b with
 | nil => exact hr c hc
 | cons x y => exact hb c hc
theorem Pw.lex {t : List UInt8} {ks : List (Int × List UInt8)} (h : Pw t ks) : Lex t ks:=by
 have:=h [] [] zGC (.done rfl)
 rwa [List.append_nil,List.append_nil] at this
theorem Lex.sep {c : UInt8} {r : List UInt8} {kr : List (Int × List UInt8)} (hc : sepB c = true) (h : Lex r kr) : Lex (c :: r) kr:=by
 have e : (c :: r).drop (skipM false (c :: r)) = r.drop (skipM false r):=by
  rw [skipM,if_pos hc,List.drop_succ_cons]
 cases h with
 | done h => exact .done (by rw [e]; exact h)
 | tok h ht hr => exact .tok (by rw [e]; exact h) ht hr
theorem Ps.sep {c : UInt8} (hc : sepB c = true) : Ps [c] []:=fun _ _ h => h.sep hc
theorem zE5 (c : UInt8) : zC8 c = true -> sepB c = false /\ (c == 35) = false /\ wrdU c = false:=
 zEr (p:=fun c => zC8 c = true -> sepB c = false /\ (c == 35) = false /\ wrdU c = false) (by decide +kernel) c
theorem zEG {c : UInt8} {r : List UInt8} (h : sepB c = false) (h2 : (c == 35) = false) : skipM false (c :: r) = 0:=by
 rw [skipM,if_neg (by rw [h]; decide),if_neg (by rw [h2]; decide)]
theorem Ps.sign {c : UInt8} (hc : zC8 c = true) : Ps [c] [(1,[c])]:=fun r kr h => by
 obtain ⟨h1,h2,-⟩:=zE5 c hc
 refine .tok (l:=c :: r) (c:=c) (r:=r) (n:=1) (by rw [zEG h1 h2]; rfl) ?_ h
 unfold zDC
 simp only [hc,if_true]
def nameU (l : List UInt8) : Bool:=match l with | [] => false | c :: r => letU c && r.all wrdU && decide (r.length < 64)
theorem let_plain (c : UInt8) : letU c = true -> sepB c = false /\ (c == 35) = false /\ zC8 c = false /\ (c == 46) = false /\ (c == 45 || digU c) = false /\ wrdU c = true:=
 zEr (p:=fun c => letU c = true -> sepB c = false /\ (c == 35) = false /\ zC8 c = false /\ (c == 46) = false /\ (c == 45 || digU c) = false /\ wrdU c = true) (by decide +kernel) c
theorem zFk {p : UInt8 -> Bool} : ∀ (l r : List UInt8),l.all p = true -> (∀ c,r.head? = some c -> p c = false) -> spanN p (l ++ r) = l.length
 | [],[],_,_ => rfl
 | [],c :: r,_,h => by
   show spanN p (c :: r) = 0
   rw [spanN,if_neg (by rw [h c rfl]; decide)]
 | c :: l,r,ha,h => by
   rw [List.all_cons,Bool.and_eq_true] at ha
   rw [List.cons_append,spanN,if_pos ha.1,zFk l r ha.2 h,List.length_cons]
theorem Pw.name {l : List UInt8} (h : nameU l = true) : Pw l [(2,l)]:=fun r kr hb hr => by
 cases l with
 | nil => cases h
 | cons c q =>
   simp only [nameU,Bool.and_eq_true,decide_eq_true_eq] at h
   obtain ⟨⟨h1,h2⟩,h3⟩:=h
   obtain ⟨p1,p2,p3,p4,p5,p6⟩:=let_plain c h1
   have hs:=zFk q r h2 hb
   refine .tok (l:=c :: (q ++ r)) (c:=c) (r:=q ++ r) (n:=q.length + 1) (by rw [zEG p1 p2]; rfl) ?_ (by rw [List.drop_succ_cons,List.drop_left]; exact hr)
   unfold zDC
   simp only [p3,p4,p5,h1,hs,Bool.false_eq_true,if_false,if_true,List.take_left]
   rw [if_neg (by omega)]
theorem zIO : ∀ {l : List UInt8},l.all digU = true -> l.all wrdU = true:=fun {l} h => by
 rw [List.all_eq_true] at h |-
 intro x hx
 unfold wrdU
 rw [h x hx,Bool.or_true]
theorem num_plain (c : UInt8) : (c == 45 || digU c) = true -> sepB c = false /\ (c == 35) = false /\ zC8 c = false /\ (c == 46) = false:=
 zEr (p:=fun c => (c == 45 || digU c) = true -> sepB c = false /\ (c == 35) = false /\ zC8 c = false /\ (c == 46) = false) (by decide +kernel) c
theorem Pw.num {l : List UInt8} {n : Int} (h : numU l = .ok n) (h1 : ∃ c q,l = c :: q /\ (c == 45 || digU c) = true /\ q.all wrdU = true) : Pw l [(3,l)]:=fun r kr hb hr => by
 obtain ⟨c,q,rfl,h2,h3⟩:=h1
 obtain ⟨p1,p2,p3,p4⟩:=num_plain c h2
 have hs:=zFk q r h3 hb
 refine .tok (l:=c :: (q ++ r)) (c:=c) (r:=q ++ r) (n:=q.length + 1) (by rw [zEG p1 p2]; rfl) ?_ (by rw [List.drop_succ_cons,List.drop_left]; exact hr)
 unfold zDC
 simp only [p3,p4,h2,hs,Bool.false_eq_true,if_false,if_true,List.take_left,h,nerU]
theorem itoa_shape (n : Int) : ∃ c q,Lib.itoa n = c :: q /\ (c == 45 || digU c) = true /\ q.all wrdU = true:=by
 unfold Lib.itoa
 split
 . exact ⟨45,_,rfl,rfl,zIO (zEg _)⟩
 . have h:=zEg n.toNat
   cases hd : Lib.decDigits n.toNat with
   | nil => exact (zIP _ hd).elim
   | cons c q =>
     rw [hd,List.all_cons,Bool.and_eq_true] at h
     exact ⟨c,q,rfl,by rw [h.1,Bool.or_true],zIO h.2⟩
theorem Pw.int (n : Int) (h0 : -9223372036854775808 <= n) (h1 : n <= 9223372036854775807) : Pw (Lib.itoa n) [(3,Lib.itoa n)]:=Pw.num (zHx n h0 h1) (itoa_shape n)
theorem lit_esc (c : UInt8) (r : List UInt8) : litN (escU c ++ r) = (litN r).map (· + (escU c).length):=
 zEr (p:=fun c => ∀ r,litN (escU c ++ r) = (litN r).map (· + (escU c).length)) (fun i => by
  revert i
  have key : ∀ (c : UInt8) (r : List UInt8),(c == 34) = false -> (c == 92) = false -> litN (c :: r) = (litN r).map (· + 1):=fun c r h h2 => by
   cases r with
   | nil => unfold litN; simp only [h,Bool.false_eq_true,if_false]; rfl
   | cons d r => rw [litN]; simp only [h,h2,Bool.false_eq_true,if_false]
  have key2 : ∀ (c : UInt8) (r : List UInt8),litN (92 :: c :: r) = (litN r).map (· + 2):=fun c r => by
   rw [litN]
   simp only [show ((92 : UInt8) == 34) = false from rfl,Bool.false_eq_true,if_false,show ((92 : UInt8) == 92) = true from rfl,if_true]
  have both : ∀ (e : List UInt8),(e.all (fun c => !(c == 34) && !(c == 92)) = true \/ ∃ d q,e = 92 :: d :: q /\ q.all (fun c => !(c == 34) && !(c == 92)) = true) -> ∀ r,litN (e ++ r) = (litN r).map (· + e.length):=by
   have plain : ∀ (e : List UInt8),e.all (fun c => !(c == 34) && !(c == 92)) = true -> ∀ r,litN (e ++ r) = (litN r).map (· + e.length):=fun e => by
    induction e with
    | nil => intro _ r; simp
    | cons c q ih =>
      intro h r
      simp only [List.all_cons,Bool.and_eq_true,Bool.not_eq_true'] at h
      rw [List.cons_append,key c _ h.1.1 h.1.2,ih (by simpa using h.2) r,Option.map_map]
      congr 1
   rintro e (h | ⟨d,q,rfl,h⟩) r
   . exact plain e h r
   . rw [List.cons_append,List.cons_append,key2,plain q h r,Option.map_map]
     congr 1
  have shape : ∀ i : Fin 256,((escU (UInt8.ofNat i.val)).all (fun c => !(c == 34) && !(c == 92)) || (match escU (UInt8.ofNat i.val) with | 92 :: _ :: q => q.all (fun c => !(c == 34) && !(c == 92)) | _ => false)) = true:=by decide +kernel
  intro i r
  refine both _ ?_ r
  have h:=shape i
  rw [Bool.or_eq_true] at h
  rcases h with h | h
  . exact .inl h
  . refine .inr ?_
    split at h
    . rename_i d q hq; exact ⟨d,q,hq,h⟩
    . cases h) c r
theorem lit_escL (l r : List UInt8) : litN (escL l ++ r) = (litN r).map (· + (escL l).length):=by
 induction l with
 | nil => simp [escL]
 | cons c q ih =>
   have e : escL (c :: q) = escU c ++ escL q:=by simp [escL]
   rw [e,List.append_assoc,lit_esc,ih,Option.map_map]
   cases litN r with
   | none => rfl
   | some n => simp [List.length_append]; omega
theorem Ps.quote (s : List UInt8) : Ps (zBN s) [(4,s)]:=fun r kr h => by
 have e : zBN s ++ r = 34 :: (escL s ++ 34 :: r):=by simp [zBN]
 have hl : litN (escL s ++ 34 :: r) = some ((escL s).length + 1):=by
  rw [lit_escL]
  have : litN (34 :: r) = some 1:=by cases r <;> (unfold litN; rfl)
  rw [this]
  show some (1 + (escL s).length) = _
  rw [Nat.add_comm]
 have ht : (escL s ++ 34 :: r).take ((escL s).length + 1) = escL s ++ [34]:=by
  rw [List.take_append,Nat.add_sub_cancel_left,List.take_of_length_le (by omega)]; rfl
 rw [e]
 refine .tok (c:=34) (r:=escL s ++ 34 :: r) (n:=(escL s).length + 1 + 1) rfl ?_ ?_
 . unfold zDC
   simp only [show zC8 34 = false from rfl,show ((34 : UInt8) == 46) = false from rfl,show ((34 : UInt8) == 45 || digU 34) = false from rfl,show letU 34 = false from rfl,show ((34 : UInt8) == 34) = true from rfl,Bool.false_eq_true,if_false,if_true,hl,ht]
   have hq : zDt (34 :: (escL s ++ [34])) = some s:=by
    have:=zFg s
    simpa [zBN] using this
   rw [hq]
 . have : (34 :: (escL s ++ 34 :: r)).drop ((escL s).length + 1 + 1) = r:=by
    rw [List.drop_succ_cons,List.drop_append,Nat.add_sub_cancel_left,List.drop_of_length_le (by omega)]; rfl
   rw [this]
   exact h
inductive All2 (T : Tok -> Tok -> Prop) : List Tok -> List Tok -> Prop where
 | nil : All2 T [] []
 | cons {a b : Tok} {l m : List Tok} (h : T a b) (t : All2 T l m) : All2 T (a :: l) (b :: m)
structure TR (T : Tok -> Tok -> Prop) (I : Nat -> Nat -> Prop) : Prop where
 k : ∀ {t t'},T t t' -> t.k = t'.k
 s : ∀ {t t'},T t t' -> t.s = t'.s
 i : ∀ {t t'},T t t' -> I t.i t'.i
 z : I 0 0
structure XR (T : Tok -> Tok -> Prop) (x x' : PS) : Prop where
 ts : All2 T x.ts x'.ts
 vr : x.vr = x'.vr
 nd : x.nd = x'.nd
def RR (T : Tok -> Tok -> Prop) (I : Nat -> Nat -> Prop) {α : Type} : PR α -> PR α -> Prop
 | .ok (a,x),.ok (a',x') => a = a' /\ XR T x x'
 | .error e,.error e' => I e.1 e'.1 /\ e.2 = e'.2
 | _,_ => False
section
variable {T : Tok -> Tok -> Prop} {I : Nat -> Nat -> Prop} {α β : Type}
theorem zEq {a b : List Tok} (h : All2 T a b) : a.length = b.length:=by induction h with | nil => rfl | cons _ _ ih => simp [ih]
theorem all2_drop {a b : List Tok} (h : All2 T a b) : ∀ n,All2 T (a.drop n) (b.drop n):=by
 induction h with
 | nil => intro n; simp; exact .nil
 | cons h1 h2 ih =>
   intro n
   cases n with
   | zero => exact .cons h1 h2
   | succ n => simpa using ih n
theorem XR.hd (hT : TR T I) {x x' : PS} (h : XR T x x') : (hdT x').k = (hdT x).k /\ (hdT x').s = (hdT x).s /\ I (hdT x).i (hdT x').i:=by
 obtain ⟨h1,-,-⟩:=h
 unfold hdT
 generalize x.ts = a at h1
 generalize x'.ts = b at h1
 cases h1 with
 | nil => exact ⟨rfl,rfl,hT.z⟩
 | cons h2 h3 => exact ⟨(hT.k h2).symm,(hT.s h2).symm,hT.i h2⟩
theorem XR.isS (hT : TR T I) {x x' : PS} (h : XR T x x') (s : List UInt8) : isS x' s = isS x s:=by
 obtain ⟨h1,h2,-⟩:=h.hd hT
 unfold Go.Proofs.YtdlnnlglmifceaaDoor.isS
 rw [h1,h2]
theorem XR.nx (hT : TR T I) {x x' : PS} (h : XR T x x') : XR T (nxT x) (nxT x'):=by
 obtain ⟨h1,-,-⟩:=h.hd hT
 unfold nxT
 rw [h1]
 split
 . exact h
 . exact ⟨all2_drop h.ts 1,h.vr,h.nd⟩
theorem XR.len {x x' : PS} (h : XR T x x') : x'.ts.length = x.ts.length:=(zEq h.ts).symm
theorem RR.err (hT : TR T I) {x x' : PS} (h : XR T x x') (e : Int) : RR T I (α:=α) (.error ((hdT x).i,e)) (.error ((hdT x').i,e)):=⟨(h.hd hT).2.2,rfl⟩
theorem RR.okk {x x' : PS} (h : XR T x x') (a : α) : RR T I (.ok (a,x)) (.ok (a,x')):=⟨rfl,h⟩
theorem RR.ite {c : Prop} [Decidable c] {a b a' b' : PR α} (h1 : c -> RR T I a a') (h2 : ¬ c -> RR T I b b') : RR T I (if c then a else b) (if c then a' else b'):=by
 split
 . rename_i h; exact h1 h
 . rename_i h; exact h2 h
theorem RR.then {r r' : PR α} {f f' : α -> PS -> PR β} (h : RR T I r r') (hf : ∀ a x x',XR T x x' -> RR T I (f a x) (f' a x')) : RR T I (thenQ r f) (thenQ r' f'):=by
 unfold thenQ
 cases r with
 | error e => cases r' with | error e' => exact h | ok a' => exact h.elim
 | ok a =>
   cases r' with
   | error e' => exact h.elim
   | ok a' =>
     obtain ⟨a,x⟩:=a
     obtain ⟨a',x'⟩:=a'
     obtain ⟨rfl,hx⟩:=h
     exact hf _ _ _ hx
variable (hT : TR T I)
include hT
end
end Go.Proofs.YtdlnnlglmifceaaDoor
namespace Go.Proofs.YtdlnnlglmifceaaDoor
theorem Lex.kinds {l : List UInt8} {ks : List (Int × List UInt8)} (h : Lex l ks) : ∀ p ∈ ks,p.1 ≠ 5:=by
 induction h with
 | done h => intro p hp; cases hp
 | tok h ht hr ih =>
   intro p hp
   rcases List.mem_cons.1 hp with rfl | hp
   . have:=zFr ht
     show _ ≠ _
     omega
   . exact ih p hp
end Go.Proofs.YtdlnnlglmifceaaDoor
