import Derived.Test.YtdlnnlglmifceaaGreatDoorProg
import Derived.KernelRfl
import Derived.Shelf.Strings.Repeat
import Derived.Test.YtdlnnlglmifceaaGreatDoorV27
set_option maxHeartbeats 8000000
set_option maxRecDepth 100000
set_option linter.unusedVariables false
set_option linter.unusedSimpArgs false
namespace Go.Proofs.YtdlnnlglmifceaaGreatDoor
open Go.RowKit
attribute [local irreducible] wpList Calls Code.wp AW AWo OpOk seqK zAi zAp loopK endK AC zAC Yld Sub
def zAH (f : Nat -> List UInt8) (n : Nat) : List D:=(List.range n).map fun i => .str (bs (f i))
theorem zAe (f : Nat -> List UInt8) (n : Nat) : (zAH f n).length = n:=by simp [zAH]
theorem zAK (f : Nat -> List UInt8) (n : Nat) : zAH f (n + 1) = zAH f n ++ [.str (bs (f n))]:=by simp [zAH,List.range_succ]
theorem zA8 (f : Nat -> List UInt8) (n : Nat) : txs (zAH f n) = (List.range n).map f:=by
 unfold txs zAH
 rw [List.map_map]
 exact List.map_congr_left fun i _ => zB9 _
theorem zCO {l : List D} {x : D} {c : Nat} (h : l.length <= 100000000) (hc : c <= 1000) : 0 < [x].length /\ l.length + [x].length <= maxLen /\ (l.length + [x].length) * c <= 140737488355328:=by
 refine ⟨by simp,by unfold maxLen; simp; omega,?_⟩
 have : (l.length + 1) * c <= 100000001 * 1000:=Nat.mul_le_mul (by omega) hc
 simp only [List.length_cons,List.length_nil,Nat.zero_add]
 omega
theorem at_ok {i n : Nat} (h : decide ((i : Int) < (n : Int)) = true) : 0 <= (i : Int) /\ (i : Int) < (n : Int):=⟨by omega,of_decide_eq_true h⟩
theorem zBF {i n : Nat} (h : decide ((i : Int) < (n : Int)) = true) : i < n:=by have:=of_decide_eq_true h; omega
theorem zFn {i n : Nat} (h : decide ((i : Int) < (n : Int)) = false) : n <= i:=by have:=of_decide_eq_false h; omega
theorem sz3 {a b : UInt8} {l : List UInt8} {n : Nat} (h : l.length <= n) (hn : n <= 1000000000:=by omega) : ((⟨#[a]⟩ : ByteArray) ++ bs l).size + (⟨#[b]⟩ : ByteArray).size <= maxLen:=by
 simp only [ByteArray.size_append,zAJ]
 show 1 + _ + 1 <= _
 unfold maxLen; omega
theorem sz2 {a : UInt8} {l : List UInt8} {n : Nat} (h : l.length <= n) (hn : n <= 1000000000:=by omega) : (⟨#[a]⟩ : ByteArray).size + (bs l).size <= maxLen:=by
 simp only [zAJ]
 show 1 + _ <= _
 unfold maxLen; omega
def mI (a b : Nat) : Int:=if (b : Int) < (a : Int) then b else a
theorem mI_eq (a b : Nat) : mI a b = (min a b : Nat):=by unfold mI; split <;> omega
noncomputable def HzL (d : D) (f : Nat -> List UInt8) (i : Nat) : Vst 85:=
 stS 85 [(1,.bx 1 0),(3,.own 3 9 (zAH f i)),(36,.sl 62 (d.f 3).l),(37,.c (.int .i64 (d.f 3).l.length)),(38,.c (.int .i64 i))] [(1,.box 62 (cellsV Tryz.prog 12 62 d)),(3,.tok 9 (zAH f i).length)]
noncomputable def HzO (d : D) (f : Nat -> List UInt8) (i : Nat) : Vst 85:=
 stS 85 [(1,.bx 1 0),(3,.own 3 9 (zAH f i)),(60,.c (.int .i64 (if ((d.f 3).l.length : Int) < ((d.f 4).l.length : Int) then ((d.f 3).l.length : Int) else ((d.f 4).l.length : Int)))),(61,.c (.int .i64 i))] [(1,.box 62 (cellsV Tryz.prog 12 62 d)),(3,.tok 9 (zAH f i).length)]
def goodV : Nat -> D -> Prop
 | 0,_ => True
 | k + 1,d => ((d.f 0).n = 1 -> (d.f 1).n = 0 \/ (d.f 1).n = 1) /\ ∀ i,i < (d.f 3).l.length -> goodV k (gD (d.f 3).l i)
theorem val_items (k : Nat) (d : D) (hw : wideD d) (hb : bulkD d <= 1048576) : (Lib.join ((List.range (d.f 3).l.length).map fun i => valT k (gD (d.f 3).l i)) commaT).length <= 26000000:=by
 have:=zBA (d.f 3).l.length (fun i => valT k (gD (d.f 3).l i)) commaT (fun i => 24 * bulkD (gD (d.f 3).l i)) fun i hi => zBS k _ ((hw.f 3).l i)
 rw [zBj,<- zBM] at this
 have h3:=zAP (d.f 3)
 have h4:=wD_f d 3
 have h5:=zv d
 omega
theorem zGe (k : Nat) (d : D) (hw : wideD d) (hb : bulkD d <= 1048576) : (Lib.join ((List.range (min (d.f 4).l.length (d.f 3).l.length)).map fun i => tx (gD (d.f 4).l i).s ++ [58,32] ++ valT k (gD (d.f 3).l i)) commaT).length <= 52000000:=by
 have:=zBA (min (d.f 4).l.length (d.f 3).l.length) (fun i => tx (gD (d.f 4).l i).s ++ [58,32] ++ valT k (gD (d.f 3).l i)) commaT (fun i => 24 * bulkD (gD (d.f 4).l i) + 24 * bulkD (gD (d.f 3).l i)) fun i hi => by
  have a:=zBS k (gD (d.f 3).l i) ((hw.f 3).l i)
  have b:=zAn (gD (d.f 4).l i)
  have c:=zv (gD (d.f 4).l i)
  have e:=zAj (gD (d.f 4).l i).s
  have e' : commaT.length = 2:=rfl
  simp only [List.length_append,List.length_cons,List.length_nil]
  omega
 rw [zFG,zBj,zBj] at this
 have a1:=zBr (fun i => bulkD (gD (d.f 4).l i)) (show min (d.f 4).l.length (d.f 3).l.length <= (d.f 4).l.length by omega)
 have a2:=zBr (fun i => bulkD (gD (d.f 3).l i)) (show min (d.f 4).l.length (d.f 3).l.length <= (d.f 3).l.length by omega)
 rw [<- zBM] at a1 a2
 have h3:=zAP (d.f 3)
 have h4:=zAP (d.f 4)
 have h5:=wD_f d 3
 have h6:=wD_f d 4
 have h7:=zv d
 omega
theorem val_lens (d : D) (hb : bulkD d <= 1048576) : (d.f 2).s.size <= 1048576 /\ (d.f 3).l.length <= 1048576 /\ (d.f 4).l.length <= 1048576:=by
 have len : ∀ l : List D,l.length <= bulkL l:=fun l => by
  induction l with
  | nil => exact Nat.zero_le _
  | cons x r ih => have:=zBB x; simp only [List.length_cons,bulkL]; omega
 have h2:=zAn (d.f 2)
 have h3:=zAP (d.f 3)
 have h4:=zAP (d.f 4)
 have h5:=wD_f d 2
 have h6:=wD_f d 3
 have h7:=wD_f d 4
 have h8:=zv d
 have:=len (d.f 3).l
 have:=len (d.f 4).l
 omega
theorem valT_list {k : Nat} {d : D} (h : (d.f 0).n = 5) : valT (k + 1) d = [91] ++ Lib.join ((List.range (d.f 3).l.length).map fun i => valT k (gD (d.f 3).l i)) commaT ++ [93]:=by
 rw [valT,h]; rfl
theorem valT_obj {k : Nat} {d : D} (h : (d.f 0).n = 6) : valT (k + 1) d = [123] ++ Lib.join ((List.range (min (d.f 4).l.length (d.f 3).l.length)).map fun i => tx (gD (d.f 4).l i).s ++ [58,32] ++ valT k (gD (d.f 3).l i)) commaT ++ [125]:=by
 rw [valT,h]; rfl
theorem zCw : ∀ (k : Nat) (d : D),Dp k d -> wideD d -> goodV k d -> bulkD d <= 1048576 -> AC EN Tryz.prog 170 [.agg (cellsV Tryz.prog 12 62 d)] (.c (.string (bs (valT k d))))
 | 0,_,h,_,_,_ => h.elim
 | k + 1,d,h,hw,hg,hb => by
   obtain ⟨hs,hl3,hl4⟩:=val_lens d hb
   have hn:=(hw.f 1).n
   have hdec:=zHB (d.f 1).n hn.1 hn.2
   have hq:=quoteP_ac (d.f 2).s hs
   have hit:=val_items k d hw hb
   have hen:=zGe k d hw hb
   have ih : ∀ i,i < (d.f 3).l.length -> AC EN Tryz.prog 170 [.agg (cellsV Tryz.prog 12 62 (gD (d.f 3).l i))] (.c (.string (bs (valT k (gD (d.f 3).l i))))):=fun i hi =>
    zCw k _ (h i hi) ((hw.f 3).l i) (hg.2 i hi) (by have:=zDC hi; have:=zv d; omega)
   have hjl:=zBp (zAH (fun i => valT k (gD (d.f 3).l i)) (d.f 3).l.length) [44,32] (by rw [zAe]; omega) (by rw [zA8]; exact Nat.le_trans hit (by omega))
   have hjo:=zBp (zAH (fun i => tx (gD (d.f 4).l i).s ++ [58,32] ++ valT k (gD (d.f 3).l i)) (min (d.f 4).l.length (d.f 3).l.length)) [44,32] (by rw [zAe]; omega) (by rw [zA8]; exact Nat.le_trans hen (by omega))
   refine zh 85 Tryz.func170 rfl rfl rfl rfl ?_
   intro s w he
   repeat' (first
|refine zB ?_
|refine zM ?_
|refine zk ?_
|refine zV ?_
|refine zd ?_
|apply aw_1
 conv => whnf
 refine ⟨?_,trivial⟩
|apply s_1
 conv => whnf; arg 1; arg 4; arg 3; whnf
 refine ⟨?_,?_⟩
|apply z7 rfl
 . conv => lhs; whnf
 . conv => lhs; whnf; arg 2; whnf
|apply zl rfl
 . conv => lhs; whnf
 . conv => lhs; whnf
 . first | exact hdec | exact hq
|apply zAV rfl rfl rfl rfl
 . conv => lhs; whnf; arg 1; whnf
 . rfl
|apply zr rfl rfl rfl rfl
 . conv => lhs; whnf; arg 1; whnf
 . rfl
|apply zq rfl rfl rfl
 . conv => lhs; whnf
 . conv => lhs; whnf; arg 1; whnf
 . conv => lhs; whnf; arg 1; whnf
 . exact ⟨by kernel_rfl,by kernel_rfl⟩
 . rfl
|apply zAu rfl rfl
 . conv => lhs; whnf
 . first | (conv => lhs; whnf; arg 1; whnf)
 . first | exact fun _ => rfl | (intro _; kernel_rfl)
 . conv => lhs; whnf
 . conv => lhs; whnf; arg 1; whnf
 . conv => lhs; whnf
|apply zx rfl rfl rfl rfl
 . first | (conv => lhs; whnf; arg 1; whnf)
 . first | exact fun _ => rfl | (intro _; kernel_rfl)
 . conv => lhs; whnf
 . conv => lhs; whnf
|apply zAU rfl rfl
 . conv => lhs; whnf
 . first | (conv => lhs; whnf; arg 1; whnf)
|apply zAT rfl rfl
 . conv => lhs; whnf
 . first | (conv => lhs; whnf; arg 1; whnf)
 . conv => lhs; whnf; arg 1; whnf
 . rfl
 . rfl
|apply zAO rfl rfl
 . conv => lhs; whnf
 . first | (conv => lhs; whnf; arg 1; whnf)
 . first | exact fun _ => rfl | (intro _; kernel_rfl)
 . conv => lhs; whnf
 . conv => lhs; whnf
|apply zw (by kernel_rfl) (by kernel_rfl)
|apply zAd
|apply zAc rfl
 . conv => lhs; whnf
 . conv => lhs; whnf; arg 2; whnf
|apply zAQ rfl
 . conv => lhs; whnf
 . conv => lhs; whnf
 . first | exact hdec | exact hq
|apply zAD rfl rfl rfl
 . conv => lhs; whnf
 . rfl
 . rfl
 . conv => lhs; whnf; arg 1; whnf
 . conv => lhs; whnf; arg 1; whnf
 . exact ⟨by kernel_rfl,by kernel_rfl⟩
 . rfl
|apply zAz rfl rfl
 . conv => lhs; whnf
 . first | (conv => lhs; whnf; arg 1; whnf)
 . first | exact fun _ => rfl | (intro _; kernel_rfl)
 . conv => lhs; whnf
 . rfl
 . rfl
 . conv => lhs; whnf; arg 1; whnf
 . conv => lhs; whnf
|apply zAa rfl rfl
 . conv => lhs; whnf
 . first | (conv => lhs; whnf; arg 1; whnf)
|apply zAZ rfl rfl
 . conv => lhs; whnf
 . first | (conv => lhs; whnf; arg 1; whnf)
 . conv => lhs; whnf; arg 1; whnf
 . rfl
 . rfl
|apply zAS rfl rfl
 . conv => lhs; whnf
 . first | (conv => lhs; whnf; arg 1; whnf)
 . first | exact fun _ => rfl | (intro _; kernel_rfl)
 . conv => lhs; whnf
 . conv => lhs; whnf
|exact zX
|exact ze
|exact all_nil
|show List.all _ _ = true; rfl
|show zAB _ _ = true; rfl
|exact ([] : List Nat)
|exact (1000000 : Nat)
|apply zN
 . conv => lhs; whnf; arg 1; arg 1; whnf
|apply zO
 . conv => lhs; whnf; arg 1; arg 1; whnf
|refine zW (by conv => lhs; whnf) ?_ ?_ <;> intro hb
|refine zn ?_
|refine zb ?_
|refine zH ?_
|refine zL ?_
|refine zG ?_
|refine zD rfl ?_
|refine zF rfl ?_
|refine zE ?_
|refine zJ ?_
|refine zC ?_
|refine zK ?_
|refine z8 ?_
|refine zI ?_
|refine ⟨_,by conv => lhs; whnf; arg 2; whnf,?_⟩; conv => rhs; whnf
|exact trivial
|intro hg)
   . rename_i h0
     rw [valT,if_pos (by simpa using h0),if_neg (by have h1 : (d.f 1).n = 0:=by simpa using hb
                                                    rw [h1]; decide)]; rfl
   . rename_i h0
     have h1 : ¬ (d.f 1).n = 0:=by simpa using hb
     rw [valT,if_pos (by simpa using h0),if_pos ((hg.1 (by simpa using h0)).resolve_left h1)]; rfl
   . rename_i h0
     rw [valT,if_neg (by simpa using h0),if_pos (by simpa using hb)]
   . rename_i h0 h1
     rw [valT,if_neg (by simpa using h0),if_neg (by simpa using h1),if_pos (by simpa using hb)]
   . rename_i h0 h1 h2
     rw [valT,if_neg (by simpa using h0),if_neg (by simpa using h1),if_neg (by simpa using h2),if_pos (by simpa using hb),zCM]
   . rename_i h0 h1 h2 h3
     rw [valT,if_neg (by simpa using h0),if_neg (by simpa using h1),if_neg (by simpa using h2),if_neg (by simpa using h3),if_pos (by simpa using hb),<- zz,zCM]; rfl
   . have : (d.f (0 + 1 + 1)).s.size <= 1048576:=hs
     show 1 + _ <= _
     unfold maxLen; omega
   . have hk : (d.f 0).n = 5:=by simpa using hb
     refine zAF (Sub.own (t:=3) (e:=9) rfl rfl) ?_
     refine zAG (fun j st => ∃ i,i + j = (d.f 3).l.length /\ Sub (cx EN Tryz.prog s w he) st (HzL d (fun i => valT k (gD (d.f 3).l i)) i)) (d.f 3).l.length ⟨0,by omega,?_⟩ ?_
     . exact Sub.live ⟨rfl,rfl,rfl,rfl,rfl,trivial⟩ ⟨rfl,rfl,trivial⟩
     . rintro j st ⟨i,hij,hs2⟩
       refine zAF hs2 ?_
       have htk:=zAe (fun i => valT k (gD (d.f 3).l i)) i
       have ih2:=fun (h : decide ((i : Int) < (d.f 3).l.length) = true) => ih i (by simpa using h)
       have hjl2 : decide ((i : Int) < (d.f 3).l.length) = false -> AC EN Tryz.prog 98 [.sl 9 (zAH (fun i => valT k (gD (d.f 3).l i)) i),.c (.string (bs [44,32]))] (.c (.string (bs (Lib.join (txs (zAH (fun i => valT k (gD (d.f 3).l i)) (d.f 3).l.length)) [44,32])))):=fun h => by
        have e : i = (d.f 3).l.length:=by simp at h; omega
        rw [e]; exact hjl
       repeat' (first
|refine zB ?_
|refine zM ?_
|refine zk ?_
|refine zV ?_
|refine zd ?_
|apply aw_1
 conv => whnf
 refine ⟨?_,trivial⟩
|apply s_1
 conv => whnf; arg 1; arg 4; arg 3; whnf
 refine ⟨?_,?_⟩
|apply z7 rfl
 . conv => lhs; whnf
 . conv => lhs; whnf; arg 2; whnf
|apply zl rfl
 . conv => lhs; whnf
 . conv => lhs; whnf
 . first | exact ih2 ‹_› | exact hjl2 ‹_›
|apply zAV rfl rfl rfl rfl
 . conv => lhs; whnf; arg 1; whnf
 . rfl
|apply zr rfl rfl rfl rfl
 . conv => lhs; whnf; arg 1; whnf
 . rfl
|apply zq rfl rfl rfl
 . conv => lhs; whnf
 . conv => lhs; whnf; arg 1; whnf
 . conv => lhs; whnf; arg 1; whnf
 . exact ⟨by kernel_rfl,by kernel_rfl⟩
 . rfl
|apply zAu rfl rfl
 . conv => lhs; whnf
 . first | exact zZ | (conv => lhs; whnf; arg 1; whnf)
 . first | exact fun _ => rfl | (intro _; kernel_rfl)
 . conv => lhs; whnf
 . conv => lhs; whnf; arg 1; whnf
 . conv => lhs; whnf
|apply zx rfl rfl rfl rfl
 . first | exact zZ | (conv => lhs; whnf; arg 1; whnf)
 . first | exact fun _ => rfl | (intro _; kernel_rfl)
 . conv => lhs; whnf
 . conv => lhs; whnf
|apply zAU rfl rfl
 . conv => lhs; whnf
 . first | exact zZ | (conv => lhs; whnf; arg 1; whnf)
|apply zAT rfl rfl
 . conv => lhs; whnf
 . first | exact zZ | (conv => lhs; whnf; arg 1; whnf)
 . conv => lhs; whnf; arg 1; whnf
 . rfl
 . rfl
|apply zAO rfl rfl
 . conv => lhs; whnf
 . first | exact zZ | (conv => lhs; whnf; arg 1; whnf)
 . first | exact fun _ => rfl | (intro _; kernel_rfl)
 . conv => lhs; whnf
 . conv => lhs; whnf
|apply zw (by kernel_rfl) (by kernel_rfl)
|apply zAd
|apply zAc rfl
 . conv => lhs; whnf
 . conv => lhs; whnf; arg 2; whnf
|apply zAQ rfl
 . conv => lhs; whnf
 . conv => lhs; whnf
 . first | exact ih2 ‹_› | exact hjl2 ‹_›
|apply zAD rfl rfl rfl
 . conv => lhs; whnf
 . rfl
 . rfl
 . conv => lhs; whnf; arg 1; whnf
 . conv => lhs; whnf; arg 1; whnf
 . exact ⟨by kernel_rfl,by kernel_rfl⟩
 . rfl
|apply zAz rfl rfl
 . conv => lhs; whnf
 . first | exact zZ | (conv => lhs; whnf; arg 1; whnf)
 . first | exact fun _ => rfl | (intro _; kernel_rfl)
 . conv => lhs; whnf
 . rfl
 . rfl
 . conv => lhs; whnf; arg 1; whnf
 . conv => lhs; whnf
|apply zAa rfl rfl
 . conv => lhs; whnf
 . first | exact zZ | (conv => lhs; whnf; arg 1; whnf)
|apply zAZ rfl rfl
 . conv => lhs; whnf
 . first | exact zZ | (conv => lhs; whnf; arg 1; whnf)
 . conv => lhs; whnf; arg 1; whnf
 . rfl
 . rfl
|apply zAS rfl rfl
 . conv => lhs; whnf
 . first | exact zZ | (conv => lhs; whnf; arg 1; whnf)
 . first | exact fun _ => rfl | (intro _; kernel_rfl)
 . conv => lhs; whnf
 . conv => lhs; whnf
|exact zX
|exact ze
|exact all_nil
|show List.all _ _ = true; rfl
|show zAB _ _ = true; rfl
|exact ([] : List Nat)
|exact (1000000 : Nat)
|apply zN
 . conv => lhs; whnf; arg 1; arg 1; whnf
|apply zO
 . conv => lhs; whnf; arg 1; arg 1; whnf
|refine zW (by conv => lhs; whnf) ?_ ?_ <;> intro hb
|refine zn ?_
|refine zb ?_
|refine zH ?_
|refine zL ?_
|refine zG ?_
|refine zD rfl ?_
|refine zF rfl ?_
|refine zE ?_
|refine zJ ?_
|refine zC ?_
|refine zK ?_
|refine z8 ?_
|refine zI ?_
|refine ⟨_,by conv => lhs; whnf; arg 2; whnf,?_⟩; conv => rhs; whnf
|exact trivial
|intro hg)
       . have hi:=zBF hb
         refine zY (j':=j - 1) (by omega) ⟨i + 1,by omega,Sub.live ⟨rfl,?_,rfl,rfl,rfl,trivial⟩ ⟨rfl,?_,trivial⟩⟩
         . show V.own 3 _ (zAH _ i ++ [.str (bs _)]) = _
           rw [<- zAK]
         . show some (Res.tok _ ((zAH _ i).length + 1)) = _
           rw [zAK,List.length_append]; rfl
       . exact zAN (by omega)
       . exact zCO (by omega) (by omega)
       . exact at_ok hb
       . rw [valT_list hk,zA8,<- zz,<- zz]; rfl
       . rw [zA8]; exact sz3 hit
       . rw [zA8]; exact sz2 hit
   . have hk : (d.f 0).n = 6:=by simpa using hb
     refine zAF (Sub.own (t:=3) (e:=9) rfl rfl) ?_
     refine zAG (fun j st => ∃ i,i + j = min (d.f 4).l.length (d.f 3).l.length /\ Sub (cx EN Tryz.prog s w he) st (HzO d (fun i => tx (gD (d.f 4).l i).s ++ [58,32] ++ valT k (gD (d.f 3).l i)) i)) (min (d.f 4).l.length (d.f 3).l.length) ⟨0,by omega,?_⟩ ?_
     . exact Sub.live ⟨rfl,rfl,rfl,rfl,trivial⟩ ⟨rfl,rfl,trivial⟩
     . rintro j st ⟨i,hij,hs2⟩
       refine zAF hs2 ?_
       have htk:=zAe (fun i => tx (gD (d.f 4).l i).s ++ [58,32] ++ valT k (gD (d.f 3).l i)) i
       have hlt : decide ((i : Int) < mI (d.f 4).l.length (d.f 3).l.length) = true -> i < (d.f 3).l.length /\ i < (d.f 4).l.length:=fun h => by
        rw [mI_eq] at h
        have:=zBF h
        omega
       have ih2:=fun (h : decide ((i : Int) < mI (d.f 4).l.length (d.f 3).l.length) = true) => ih i (hlt h).1
       have hjo2 : decide ((i : Int) < mI (d.f 4).l.length (d.f 3).l.length) = false -> AC EN Tryz.prog 98 [.sl 9 (zAH (fun i => tx (gD (d.f 4).l i).s ++ [58,32] ++ valT k (gD (d.f 3).l i)) i),.c (.string (bs [44,32]))] (.c (.string (bs (Lib.join (txs (zAH (fun i => tx (gD (d.f 4).l i).s ++ [58,32] ++ valT k (gD (d.f 3).l i)) (min (d.f 4).l.length (d.f 3).l.length))) [44,32])))):=fun h => by
        rw [mI_eq] at h
        have e : i = min (d.f 4).l.length (d.f 3).l.length:=by have:=zFn h; omega
        rw [e]; exact hjo
       have hks : i < (d.f 4).l.length -> (gD (d.f 4).l i).s.size <= 1048576:=fun hi => by
        have:=zAn (gD (d.f 4).l i)
        have:=zv (gD (d.f 4).l i)
        have:=zDC hi
        have:=zv d
        omega
       have hvs : i < (d.f 3).l.length -> (valT k (gD (d.f 3).l i)).length <= 26000000:=fun hi => by
        have:=zBS k _ ((hw.f 3).l i)
        have:=zDC hi
        have:=zv d
        omega
       repeat' (first
|refine zB ?_
|refine zM ?_
|refine zk ?_
|refine zV ?_
|refine zd ?_
|apply aw_1
 conv => whnf
 refine ⟨?_,trivial⟩
|apply s_1
 conv => whnf; arg 1; arg 4; arg 3; whnf
 refine ⟨?_,?_⟩
|apply z7 rfl
 . conv => lhs; whnf
 . conv => lhs; whnf; arg 2; whnf
|apply zl rfl
 . conv => lhs; whnf
 . conv => lhs; whnf
 . first | exact ih2 ‹_› | exact hjo2 ‹_›
|apply zAV rfl rfl rfl rfl
 . conv => lhs; whnf; arg 1; whnf
 . rfl
|apply zr rfl rfl rfl rfl
 . conv => lhs; whnf; arg 1; whnf
 . rfl
|apply zq rfl rfl rfl
 . conv => lhs; whnf
 . conv => lhs; whnf; arg 1; whnf
 . conv => lhs; whnf; arg 1; whnf
 . exact ⟨by kernel_rfl,by kernel_rfl⟩
 . rfl
|apply zAu rfl rfl
 . conv => lhs; whnf
 . first | exact zZ | (conv => lhs; whnf; arg 1; whnf)
 . first | exact fun _ => rfl | (intro _; kernel_rfl)
 . conv => lhs; whnf
 . conv => lhs; whnf; arg 1; whnf
 . conv => lhs; whnf
|apply zx rfl rfl rfl rfl
 . first | exact zZ | (conv => lhs; whnf; arg 1; whnf)
 . first | exact fun _ => rfl | (intro _; kernel_rfl)
 . conv => lhs; whnf
 . conv => lhs; whnf
|apply zAU rfl rfl
 . conv => lhs; whnf
 . first | exact zZ | (conv => lhs; whnf; arg 1; whnf)
|apply zAT rfl rfl
 . conv => lhs; whnf
 . first | exact zZ | (conv => lhs; whnf; arg 1; whnf)
 . conv => lhs; whnf; arg 1; whnf
 . rfl
 . rfl
|apply zAO rfl rfl
 . conv => lhs; whnf
 . first | exact zZ | (conv => lhs; whnf; arg 1; whnf)
 . first | exact fun _ => rfl | (intro _; kernel_rfl)
 . conv => lhs; whnf
 . conv => lhs; whnf
|apply zw (by kernel_rfl) (by kernel_rfl)
|apply zAd
|apply zAc rfl
 . conv => lhs; whnf
 . conv => lhs; whnf; arg 2; whnf
|apply zAQ rfl
 . conv => lhs; whnf
 . conv => lhs; whnf
 . first | exact ih2 ‹_› | exact hjo2 ‹_›
|apply zAD rfl rfl rfl
 . conv => lhs; whnf
 . rfl
 . rfl
 . conv => lhs; whnf; arg 1; whnf
 . conv => lhs; whnf; arg 1; whnf
 . exact ⟨by kernel_rfl,by kernel_rfl⟩
 . rfl
|apply zAz rfl rfl
 . conv => lhs; whnf
 . first | exact zZ | (conv => lhs; whnf; arg 1; whnf)
 . first | exact fun _ => rfl | (intro _; kernel_rfl)
 . conv => lhs; whnf
 . rfl
 . rfl
 . conv => lhs; whnf; arg 1; whnf
 . conv => lhs; whnf
|apply zAa rfl rfl
 . conv => lhs; whnf
 . first | exact zZ | (conv => lhs; whnf; arg 1; whnf)
|apply zAZ rfl rfl
 . conv => lhs; whnf
 . first | exact zZ | (conv => lhs; whnf; arg 1; whnf)
 . conv => lhs; whnf; arg 1; whnf
 . rfl
 . rfl
|apply zAS rfl rfl
 . conv => lhs; whnf
 . first | exact zZ | (conv => lhs; whnf; arg 1; whnf)
 . first | exact fun _ => rfl | (intro _; kernel_rfl)
 . conv => lhs; whnf
 . conv => lhs; whnf
|exact zX
|exact ze
|exact all_nil
|show List.all _ _ = true; rfl
|show zAB _ _ = true; rfl
|exact ([] : List Nat)
|exact (1000000 : Nat)
|apply zN
 . conv => lhs; whnf; arg 1; arg 1; whnf
|apply zO
 . conv => lhs; whnf; arg 1; arg 1; whnf
|refine zW (by conv => lhs; whnf) ?_ ?_ <;> intro hb
|refine zn ?_
|refine zb ?_
|refine zH ?_
|refine zL ?_
|refine zG ?_
|refine zD rfl ?_
|refine zF rfl ?_
|refine zE ?_
|refine zJ ?_
|refine zC ?_
|refine zK ?_
|refine z8 ?_
|refine zI ?_
|refine ⟨_,by conv => lhs; whnf; arg 2; whnf,?_⟩; conv => rhs; whnf
|exact trivial
|intro hg)
       . refine zY (j':=j - 1) (by have:=hlt hb; omega) ⟨i + 1,by have:=hlt hb; omega,Sub.live ⟨rfl,?_,rfl,rfl,trivial⟩ ⟨rfl,?_,trivial⟩⟩
         . show V.own 3 _ (zAH _ i ++ [.str ((gD (d.f 4).l i).s ++ ⟨#[58,32]⟩ ++ bs _)]) = _
           rw [zAK,<- zz,<- zz,zCM]; rfl
         . show some (Res.tok _ ((zAH _ i).length + 1)) = _
           rw [zAK,List.length_append]; rfl
       . exact zAN (by have:=hlt hb; omega)
       . exact zCO (by have:=hlt hb; omega) (by omega)
       . have h1:=hks (hlt hb).2
         have h2:=hvs (hlt hb).1
         rw [ByteArray.size_append,zAJ]
         show (gD (d.f 4).l i).s.size + 2 + _ <= _
         unfold maxLen; omega
       . have:=(hlt hb).1
         exact ⟨by omega,by show (i : Int) < ((d.f 3).l.length : Int); omega⟩
       . have h1:=hks (hlt hb).2
         show (gD (d.f 4).l i).s.size + 2 <= _
         unfold maxLen; omega
       . have:=(hlt hb).2
         exact ⟨by omega,by show (i : Int) < ((d.f 4).l.length : Int); omega⟩
       . rw [valT_obj hk,zA8,<- zz,<- zz]; rfl
       . rw [zA8]; exact sz3 hen
       . rw [zA8]; exact sz2 hen
   . rename_i h0 h1 h2 h3 h4 h5
     rw [valT,if_neg (by simpa using h0),if_neg (by simpa using h1),if_neg (by simpa using h2),if_neg (by simpa using h3),if_neg (by simpa using h4),if_neg (by simpa using h5),if_neg (by simpa using hb)]; rfl
structure ArgsOk (k : Nat) (l : List D) : Prop where
 wide : ∀ i,wideD (gD l i)
 bulk : bulkL l <= 1048576
 dp : ∀ i,i < l.length -> Dp k ((gD l i).f 1)
 good : ∀ i,i < l.length -> goodV k ((gD l i).f 1)
structure DirsOk (k : Nat) (l : List D) : Prop where
 wide : ∀ i,wideD (gD l i)
 bulk : bulkL l <= 1048576
 args : ∀ i,i < l.length -> ArgsOk k ((gD l i).f 1).l
theorem zA0 (l : List D) : l.length <= bulkL l:=by
 induction l with
 | nil => exact Nat.zero_le _
 | cons x r ih => have:=zBB x; simp only [List.length_cons,bulkL]; omega
theorem zA3 (f : D -> List UInt8) (l : List D) : txs (zAH (fun i => f (gD l i)) l.length) = l.map f:=by
 rw [zA8]
 apply List.ext_getElem (by simp)
 intro i h1 h2
 simp [zBd (l:=l) (i:=i) (by simpa using h1)]
theorem ArgsOk.val {k : Nat} {l : List D} (h : ArgsOk k l) {i : Nat} (hi : i < l.length) : bulkD ((gD l i).f 1) <= 1048576:=by
 have:=zAf hi
 have:=wD_f (gD l i) 1
 have:=zv ((gD l i).f 1)
 have:=zv (gD l i)
 have:=h.bulk
 omega
theorem ArgsOk.name {k : Nat} {l : List D} (h : ArgsOk k l) {i : Nat} (hi : i < l.length) : ((gD l i).f 0).s.size <= 1048576:=by
 have:=zAf hi
 have:=wD_f (gD l i) 0
 have:=zAn ((gD l i).f 0)
 have:=zv (gD l i)
 have:=h.bulk
 omega
theorem ArgsOk.text {k : Nat} {l : List D} (h : ArgsOk k l) {i : Nat} (hi : i < l.length) : (valT k ((gD l i).f 1)).length <= 26000000:=by
 have:=h.val hi
 have:=zBS k ((gD l i).f 1) ((h.wide i).f 1)
 omega
theorem DirsOk.name {k : Nat} {l : List D} (h : DirsOk k l) {i : Nat} (hi : i < l.length) : ((gD l i).f 0).s.size <= 1048576:=by
 have:=zAf hi
 have:=wD_f (gD l i) 0
 have:=zAn ((gD l i).f 0)
 have:=zv (gD l i)
 have:=h.bulk
 omega
theorem DirsOk.par {k : Nat} {l : List D} (h : DirsOk k l) {i : Nat} (hi : i < l.length) : (zHI k ((gD l i).f 1).l).length <= 30000000:=by
 have:=zEO k ((gD l i).f 1).l (h.args i hi).wide
 have:=(h.args i hi).bulk
 omega
theorem ArgsOk.len {k : Nat} {l : List D} (h : ArgsOk k l) : l.length <= 1048576:=Nat.le_trans (zA0 l) h.bulk
theorem DirsOk.len {k : Nat} {l : List D} (h : DirsOk k l) : l.length <= 1048576:=Nat.le_trans (zA0 l) h.bulk
theorem parT_if (k : Nat) (l : List D) : parT k l = if 0 < l.length then [40] ++ zHI k l ++ [41] else []:=by
 unfold parT
 by_cases h : l.length = 0
 . rw [if_pos h,if_neg (by omega)]
 . rw [if_neg h,if_pos (by omega)]
noncomputable def HdP (k : Nat) (l : List D) (i : Nat) : Vst 53:=
 stS 53 [(3,.own 3 9 (zAH (fun i => dirT k (gD l i)) i)),(10,.sl 129 l),(11,.c (.int .i64 l.length)),(12,.c (.int .i64 i))] [(3,.tok 9 (zAH (fun i => dirT k (gD l i)) i).length)]
noncomputable def HaP (k : Nat) (l : List D) (i m : Nat) : Vst 53:=
 stS 53 [(3,.own 3 9 (zAH (fun i => dirT k (gD l i)) i)),(6,.c (.string (⟨#[64]⟩ ++ ((gD l i).f 0).s))),(7,.own 7 9 (zAH (fun j => argT k (gD ((gD l i).f 1).l j)) m)),(10,.sl 129 l),(11,.c (.int .i64 l.length)),(12,.c (.int .i64 i)),(20,.sl 68 ((gD l i).f 1).l),(21,.c (.int .i64 ((gD l i).f 1).l.length)),(22,.c (.int .i64 m))]
  [(3,.tok 9 (zAH (fun i => dirT k (gD l i)) i).length),(7,.tok 9 (zAH (fun j => argT k (gD ((gD l i).f 1).l j)) m).length)]
theorem dirsP_ac (k : Nat) (l : List D) (h : DirsOk k l) : AC EN Tryz.prog 214 [.sl 129 l] (.c (.string (bs (dirsT k l)))):=by
 have hlen:=h.len
 have hds:=zEG k l h.wide
 have hbk:=h.bulk
 have hj:=zBp (zAH (fun i => dirT k (gD l i)) l.length) [32] (by rw [zAe]; omega) (by rw [zA3]; exact Nat.le_trans hds (by omega))
 rw [zA3] at hj
 refine zh 53 Tryz.func214 rfl rfl rfl rfl ?_
 intro s w he
 repeat' (first
|refine zB ?_
|refine zM ?_
|refine zk ?_
|refine zV ?_
|refine zd ?_
|apply aw_1
 conv => whnf
 refine ⟨?_,trivial⟩
|apply s_1
 conv => whnf; arg 1; arg 4; arg 3; whnf
 refine ⟨?_,?_⟩
|apply z7 rfl
 . conv => lhs; whnf
 . conv => lhs; whnf; arg 2; whnf
|apply zl rfl
 . conv => lhs; whnf
 . conv => lhs; whnf
 . first | fail
|apply zr rfl rfl rfl rfl
 . conv => lhs; whnf; arg 1; whnf
 . rfl
|apply zq rfl rfl rfl
 . conv => lhs; whnf
 . conv => lhs; whnf; arg 1; whnf
 . conv => lhs; whnf; arg 1; whnf
 . exact ⟨by kernel_rfl,by kernel_rfl⟩
 . rfl
|apply zAu rfl rfl
 . conv => lhs; whnf
 . first | (conv => lhs; whnf; arg 1; whnf)
 . first | exact fun _ => rfl | (intro _; kernel_rfl)
 . conv => lhs; whnf
 . conv => lhs; whnf; arg 1; whnf
 . conv => lhs; whnf
|apply zx rfl rfl rfl rfl
 . first | (conv => lhs; whnf; arg 1; whnf)
 . first | exact fun _ => rfl | (intro _; kernel_rfl)
 . conv => lhs; whnf
 . conv => lhs; whnf
|apply zAU rfl rfl
 . conv => lhs; whnf
 . first | (conv => lhs; whnf; arg 1; whnf)
|apply zAT rfl rfl
 . conv => lhs; whnf
 . first | (conv => lhs; whnf; arg 1; whnf)
 . conv => lhs; whnf; arg 1; whnf
 . rfl
 . rfl
|apply zAO rfl rfl
 . conv => lhs; whnf
 . first | (conv => lhs; whnf; arg 1; whnf)
 . first | exact fun _ => rfl | (intro _; kernel_rfl)
 . conv => lhs; whnf
 . conv => lhs; whnf
|apply zw (by kernel_rfl) (by kernel_rfl)
|apply zAd
|apply zAc rfl
 . conv => lhs; whnf
 . conv => lhs; whnf; arg 2; whnf
|apply zAQ rfl
 . conv => lhs; whnf
 . conv => lhs; whnf
 . first | fail
|apply zAD rfl rfl rfl
 . conv => lhs; whnf
 . rfl
 . rfl
 . conv => lhs; whnf; arg 1; whnf
 . conv => lhs; whnf; arg 1; whnf
 . exact ⟨by kernel_rfl,by kernel_rfl⟩
 . rfl
|apply zAz rfl rfl
 . conv => lhs; whnf
 . first | (conv => lhs; whnf; arg 1; whnf)
 . first | exact fun _ => rfl | (intro _; kernel_rfl)
 . conv => lhs; whnf
 . rfl
 . rfl
 . conv => lhs; whnf; arg 1; whnf
 . conv => lhs; whnf
|apply zAa rfl rfl
 . conv => lhs; whnf
 . first | (conv => lhs; whnf; arg 1; whnf)
|apply zAZ rfl rfl
 . conv => lhs; whnf
 . first | (conv => lhs; whnf; arg 1; whnf)
 . conv => lhs; whnf; arg 1; whnf
 . rfl
 . rfl
|apply zAS rfl rfl
 . conv => lhs; whnf
 . first | (conv => lhs; whnf; arg 1; whnf)
 . first | exact fun _ => rfl | (intro _; kernel_rfl)
 . conv => lhs; whnf
 . conv => lhs; whnf
|exact zX
|exact ze
|exact all_nil
|show List.all _ _ = true; rfl
|show zAB _ _ = true; rfl
|exact ([] : List Nat)
|exact (1000000 : Nat)
|apply zN
 . conv => lhs; whnf; arg 1; arg 1; whnf
|apply zO
 . conv => lhs; whnf; arg 1; arg 1; whnf
|refine zW (by conv => lhs; whnf) ?_ ?_ <;> intro hb
|refine zn ?_
|refine zb ?_
|refine zH ?_
|refine zL ?_
|refine zG ?_
|refine zD rfl ?_
|refine zF rfl ?_
|refine zE ?_
|refine zJ ?_
|refine zC ?_
|refine zK ?_
|refine z8 ?_
|refine zI ?_
|refine ⟨_,by conv => lhs; whnf; arg 2; whnf,?_⟩; conv => rhs; whnf
|exact trivial
|intro hg)
 refine zAF (Sub.own (t:=3) (e:=9) rfl rfl) ?_
 refine zAG (fun j st => ∃ i,i + j = l.length /\ Sub (cx EN Tryz.prog s w he) st (HdP k l i)) l.length ⟨0,by omega,?_⟩ ?_
 . exact Sub.live ⟨rfl,rfl,rfl,rfl,trivial⟩ ⟨rfl,trivial⟩
 . rintro j st ⟨i,hij,hs2⟩
   refine zAF hs2 ?_
   have htk:=zAe (fun i => dirT k (gD l i)) i
   have hj2 : decide ((i : Int) < (l.length : Int)) = false -> AC EN Tryz.prog 98 [.sl 9 (zAH (fun i => dirT k (gD l i)) i),.c (.string (bs [32]))] (.c (.string (bs (dirsT k l)))):=fun hh => by
    have e : i = l.length:=by have:=zFn hh; omega
    rw [e]; exact hj
   have hnm : i < l.length -> ((gD l i).f 0).s.size <= 1048576:=fun hi => h.name hi
   repeat' (first
|refine zB ?_
|refine zM ?_
|refine zk ?_
|refine zV ?_
|refine zd ?_
|apply aw_1
 conv => whnf
 refine ⟨?_,trivial⟩
|apply s_1
 conv => whnf; arg 1; arg 4; arg 3; whnf
 refine ⟨?_,?_⟩
|apply z7 rfl
 . conv => lhs; whnf
 . conv => lhs; whnf; arg 2; whnf
|apply zl rfl
 . conv => lhs; whnf
 . conv => lhs; whnf
 . first | exact hj2 ‹_›
|apply zr rfl rfl rfl rfl
 . conv => lhs; whnf; arg 1; whnf
 . rfl
|apply zq rfl rfl rfl
 . conv => lhs; whnf
 . conv => lhs; whnf; arg 1; whnf
 . conv => lhs; whnf; arg 1; whnf
 . exact ⟨by kernel_rfl,by kernel_rfl⟩
 . rfl
|apply zAu rfl rfl
 . conv => lhs; whnf
 . first | exact zZ | (conv => lhs; whnf; arg 1; whnf)
 . first | exact fun _ => rfl | (intro _; kernel_rfl)
 . conv => lhs; whnf
 . conv => lhs; whnf; arg 1; whnf
 . conv => lhs; whnf
|apply zx rfl rfl rfl rfl
 . first | exact zZ | (conv => lhs; whnf; arg 1; whnf)
 . first | exact fun _ => rfl | (intro _; kernel_rfl)
 . conv => lhs; whnf
 . conv => lhs; whnf
|apply zAU rfl rfl
 . conv => lhs; whnf
 . first | exact zZ | (conv => lhs; whnf; arg 1; whnf)
|apply zAT rfl rfl
 . conv => lhs; whnf
 . first | exact zZ | (conv => lhs; whnf; arg 1; whnf)
 . conv => lhs; whnf; arg 1; whnf
 . rfl
 . rfl
|apply zAO rfl rfl
 . conv => lhs; whnf
 . first | exact zZ | (conv => lhs; whnf; arg 1; whnf)
 . first | exact fun _ => rfl | (intro _; kernel_rfl)
 . conv => lhs; whnf
 . conv => lhs; whnf
|apply zw (by kernel_rfl) (by kernel_rfl)
|apply zAd
|apply zAc rfl
 . conv => lhs; whnf
 . conv => lhs; whnf; arg 2; whnf
|apply zAQ rfl
 . conv => lhs; whnf
 . conv => lhs; whnf
 . first | exact hj2 ‹_›
|apply zAD rfl rfl rfl
 . conv => lhs; whnf
 . rfl
 . rfl
 . conv => lhs; whnf; arg 1; whnf
 . conv => lhs; whnf; arg 1; whnf
 . exact ⟨by kernel_rfl,by kernel_rfl⟩
 . rfl
|apply zAz rfl rfl
 . conv => lhs; whnf
 . first | exact zZ | (conv => lhs; whnf; arg 1; whnf)
 . first | exact fun _ => rfl | (intro _; kernel_rfl)
 . conv => lhs; whnf
 . rfl
 . rfl
 . conv => lhs; whnf; arg 1; whnf
 . conv => lhs; whnf
|apply zAa rfl rfl
 . conv => lhs; whnf
 . first | exact zZ | (conv => lhs; whnf; arg 1; whnf)
|apply zAZ rfl rfl
 . conv => lhs; whnf
 . first | exact zZ | (conv => lhs; whnf; arg 1; whnf)
 . conv => lhs; whnf; arg 1; whnf
 . rfl
 . rfl
|apply zAS rfl rfl
 . conv => lhs; whnf
 . first | exact zZ | (conv => lhs; whnf; arg 1; whnf)
 . first | exact fun _ => rfl | (intro _; kernel_rfl)
 . conv => lhs; whnf
 . conv => lhs; whnf
|exact zX
|exact ze
|exact all_nil
|show List.all _ _ = true; rfl
|show zAB _ _ = true; rfl
|exact ([] : List Nat)
|exact (1000000 : Nat)
|apply zN
 . conv => lhs; whnf; arg 1; arg 1; whnf
|apply zO
 . conv => lhs; whnf; arg 1; arg 1; whnf
|refine zW (by conv => lhs; whnf) ?_ ?_ <;> intro hb
|refine zn ?_
|refine zb ?_
|refine zH ?_
|refine zL ?_
|refine zG ?_
|refine zD rfl ?_
|refine zF rfl ?_
|refine zE ?_
|refine zJ ?_
|refine zC ?_
|refine zK ?_
|refine z8 ?_
|refine zI ?_
|refine ⟨_,by conv => lhs; whnf; arg 2; whnf,?_⟩; conv => rhs; whnf
|exact trivial
|intro hg)
   . have hi:=zBF hb
     have ha:=h.args i hi
     have hla:=ha.len
     have hpar:=h.par hi
     have hja:=zBp (zAH (fun j => argT k (gD ((gD l i).f 1).l j)) ((gD l i).f 1).l.length) [44,32] (by rw [zAe]; omega) (by rw [zA3]; exact Nat.le_trans hpar (by omega))
     rw [zA3] at hja
     refine zAF (Sub.own (t:=7) (e:=9) rfl rfl) ?_
     refine zAG (fun j st => ∃ m,m + j = ((gD l i).f 1).l.length /\ Sub (cx EN Tryz.prog s w he) st (HaP k l i m)) ((gD l i).f 1).l.length ⟨0,by omega,?_⟩ ?_
     . exact Sub.live ⟨rfl,rfl,rfl,rfl,rfl,rfl,rfl,rfl,rfl,trivial⟩ ⟨rfl,rfl,trivial⟩
     . rintro j2 st2 ⟨m,hmj,hs3⟩
       refine zAF hs3 ?_
       have htk2:=zAe (fun j => argT k (gD ((gD l i).f 1).l j)) m
       have hv : decide ((m : Int) < (((gD l i).f 1).l.length : Int)) = true -> AC EN Tryz.prog 170 [.agg (cellsV Tryz.prog 12 62 ((gD ((gD l i).f 1).l m).f 1))] (.c (.string (bs (valT k ((gD ((gD l i).f 1).l m).f 1))))):=fun hh =>
        zCw k _ (ha.dp m (zBF hh)) ((ha.wide m).f 1) (ha.good m (zBF hh)) (ha.val (zBF hh))
       have hja2 : decide ((m : Int) < (((gD l i).f 1).l.length : Int)) = false -> AC EN Tryz.prog 98 [.sl 9 (zAH (fun j => argT k (gD ((gD l i).f 1).l j)) m),.c (.string (bs [44,32]))] (.c (.string (bs (zHI k ((gD l i).f 1).l)))):=fun hh => by
        have e : m = ((gD l i).f 1).l.length:=by have:=zFn hh; omega
        rw [e]; exact hja
       repeat' (first
|refine zB ?_
|refine zM ?_
|refine zk ?_
|refine zV ?_
|refine zd ?_
|apply aw_1
 conv => whnf
 refine ⟨?_,trivial⟩
|apply s_1
 conv => whnf; arg 1; arg 4; arg 3; whnf
 refine ⟨?_,?_⟩
|apply z7 rfl
 . conv => lhs; whnf
 . conv => lhs; whnf; arg 2; whnf
|apply zl rfl
 . conv => lhs; whnf
 . conv => lhs; whnf
 . first | exact hv ‹_› | exact hja2 ‹_›
|apply zr rfl rfl rfl rfl
 . conv => lhs; whnf; arg 1; whnf
 . rfl
|apply zq rfl rfl rfl
 . conv => lhs; whnf
 . conv => lhs; whnf; arg 1; whnf
 . conv => lhs; whnf; arg 1; whnf
 . exact ⟨by kernel_rfl,by kernel_rfl⟩
 . rfl
|apply zAu rfl rfl
 . conv => lhs; whnf
 . first | exact zZ | (conv => lhs; whnf; arg 1; whnf)
 . first | exact fun _ => rfl | (intro _; kernel_rfl)
 . conv => lhs; whnf
 . conv => lhs; whnf; arg 1; whnf
 . conv => lhs; whnf
|apply zx rfl rfl rfl rfl
 . first | exact zZ | (conv => lhs; whnf; arg 1; whnf)
 . first | exact fun _ => rfl | (intro _; kernel_rfl)
 . conv => lhs; whnf
 . conv => lhs; whnf
|apply zAU rfl rfl
 . conv => lhs; whnf
 . first | exact zZ | (conv => lhs; whnf; arg 1; whnf)
|apply zAT rfl rfl
 . conv => lhs; whnf
 . first | exact zZ | (conv => lhs; whnf; arg 1; whnf)
 . conv => lhs; whnf; arg 1; whnf
 . rfl
 . rfl
|apply zAO rfl rfl
 . conv => lhs; whnf
 . first | exact zZ | (conv => lhs; whnf; arg 1; whnf)
 . first | exact fun _ => rfl | (intro _; kernel_rfl)
 . conv => lhs; whnf
 . conv => lhs; whnf
|apply zw (by kernel_rfl) (by kernel_rfl)
|apply zAd
|apply zAc rfl
 . conv => lhs; whnf
 . conv => lhs; whnf; arg 2; whnf
|apply zAQ rfl
 . conv => lhs; whnf
 . conv => lhs; whnf
 . first | exact hv ‹_› | exact hja2 ‹_›
|apply zAD rfl rfl rfl
 . conv => lhs; whnf
 . rfl
 . rfl
 . conv => lhs; whnf; arg 1; whnf
 . conv => lhs; whnf; arg 1; whnf
 . exact ⟨by kernel_rfl,by kernel_rfl⟩
 . rfl
|apply zAz rfl rfl
 . conv => lhs; whnf
 . first | exact zZ | (conv => lhs; whnf; arg 1; whnf)
 . first | exact fun _ => rfl | (intro _; kernel_rfl)
 . conv => lhs; whnf
 . rfl
 . rfl
 . conv => lhs; whnf; arg 1; whnf
 . conv => lhs; whnf
|apply zAa rfl rfl
 . conv => lhs; whnf
 . first | exact zZ | (conv => lhs; whnf; arg 1; whnf)
|apply zAZ rfl rfl
 . conv => lhs; whnf
 . first | exact zZ | (conv => lhs; whnf; arg 1; whnf)
 . conv => lhs; whnf; arg 1; whnf
 . rfl
 . rfl
|apply zAS rfl rfl
 . conv => lhs; whnf
 . first | exact zZ | (conv => lhs; whnf; arg 1; whnf)
 . first | exact fun _ => rfl | (intro _; kernel_rfl)
 . conv => lhs; whnf
 . conv => lhs; whnf
|exact zX
|exact ze
|exact all_nil
|show List.all _ _ = true; rfl
|show zAB _ _ = true; rfl
|exact ([] : List Nat)
|exact (1000000 : Nat)
|apply zN
 . conv => lhs; whnf; arg 1; arg 1; whnf
|apply zO
 . conv => lhs; whnf; arg 1; arg 1; whnf
|refine zW (by conv => lhs; whnf) ?_ ?_ <;> intro hb
|refine zn ?_
|refine zb ?_
|refine zH ?_
|refine zL ?_
|refine zG ?_
|refine zD rfl ?_
|refine zF rfl ?_
|refine zE ?_
|refine zJ ?_
|refine zC ?_
|refine zK ?_
|refine z8 ?_
|refine zI ?_
|refine ⟨_,by conv => lhs; whnf; arg 2; whnf,?_⟩; conv => rhs; whnf
|exact trivial
|intro hg)
       . have hm:=zBF hb
         refine zY (j':=j2 - 1) (by omega) ⟨m + 1,by omega,Sub.live ⟨rfl,rfl,?_,rfl,rfl,rfl,rfl,rfl,rfl,trivial⟩ ⟨rfl,?_,trivial⟩⟩
         . show V.own 7 _ (zAH _ m ++ [.str (((gD ((gD l i).f 1).l m).f 0).s ++ ⟨#[58,32]⟩ ++ bs _)]) = _
           rw [zAK,argT,<- zz,<- zz,zCM]; rfl
         . show some (Res.tok _ ((zAH _ m).length + 1)) = _
           rw [zAK,List.length_append]; rfl
       . exact zAN (by have:=zBF hb; omega)
       . exact zCO (by have:=zBF hb; omega) (by omega)
       . have h1:=ha.name (zBF hb)
         have h2:=ha.text (zBF hb)
         (simp only [ByteArray.size_append,zAJ,zAR,List.size_toArray,List.length_append,List.length_cons,List.length_nil,maxLen,Nat.reduceAdd,Int.toNat_natCast]; omega)
       . have h1:=ha.name (zBF hb)
         (simp only [ByteArray.size_append,zAJ,zAR,List.size_toArray,List.length_append,List.length_cons,List.length_nil,maxLen,Nat.reduceAdd,Int.toNat_natCast]; omega)
       . exact at_ok hb
       . rename_i hb0
         have e : m = ((gD l i).f 1).l.length:=by have:=zFn hb0; omega
         have hp : 0 < ((gD l i).f 1).l.length:=by rw [htk2] at hb; have:=of_decide_eq_true hb; omega
         refine zY (j':=j - 1) (by omega) ⟨i + 1,by omega,Sub.live ⟨?_,rfl,rfl,rfl,trivial⟩ ⟨?_,trivial⟩⟩
         . show V.own 3 _ (zAH _ i ++ [.str (⟨#[64]⟩ ++ ((gD l i).f 0).s ++ (⟨#[40]⟩ ++ bs (zHI k ((gD l i).f 1).l) ++ ⟨#[41]⟩))]) = _
           rw [zAK,dirT,parT_if,if_pos hp,<- zz,<- zz,<- zz,<- zz,zCM]; rfl
         . show some (Res.tok _ ((zAH _ i).length + 1)) = _
           rw [zAK,List.length_append]; rfl
       . exact zAN (by omega)
       . exact zCO (by omega) (by omega)
       . have:=hnm hi
         (simp only [ByteArray.size_append,zAJ,zAR,List.size_toArray,List.length_append,List.length_cons,List.length_nil,maxLen,Nat.reduceAdd,Int.toNat_natCast]; omega)
       . (simp only [ByteArray.size_append,zAJ,zAR,List.size_toArray,List.length_append,List.length_cons,List.length_nil,maxLen,Nat.reduceAdd,Int.toNat_natCast]; omega)
       . (simp only [ByteArray.size_append,zAJ,zAR,List.size_toArray,List.length_append,List.length_cons,List.length_nil,maxLen,Nat.reduceAdd,Int.toNat_natCast]; omega)
       . rename_i hb0
         have e : m = ((gD l i).f 1).l.length:=by have:=zFn hb0; omega
         have hp : ¬ 0 < ((gD l i).f 1).l.length:=by rw [htk2] at hb; have:=of_decide_eq_false hb; omega
         refine zY (j':=j - 1) (by omega) ⟨i + 1,by omega,Sub.live ⟨?_,rfl,rfl,rfl,trivial⟩ ⟨?_,trivial⟩⟩
         . show V.own 3 _ (zAH _ i ++ [.str (⟨#[64]⟩ ++ ((gD l i).f 0).s)]) = _
           rw [zAK,dirT,parT_if,if_neg hp,List.append_nil,<- zz,zCM]; rfl
         . show some (Res.tok _ ((zAH _ i).length + 1)) = _
           rw [zAK,List.length_append]; rfl
       . exact zAN (by omega)
       . exact zCO (by omega) (by omega)
   . have:=hnm (zBF hb)
     show 1 + ((gD l i).f 0).s.size <= _
     unfold maxLen; omega
   . exact at_ok hb
theorem tail_ac (k : Nat) (l : List D) (h : DirsOk k l) : AC EN Tryz.prog 195 [.sl 129 l] (.c (.string (bs (zCe k l)))):=by
 have hd:=dirsP_ac k l h
 have hds:=zEG k l h.wide
 have hbk:=h.bulk
 refine zh 9 Tryz.func195 rfl rfl rfl rfl ?_
 intro s w he
 repeat' (first
|refine zB ?_
|refine zM ?_
|refine zk ?_
|refine zV ?_
|refine zd ?_
|apply aw_1
 conv => whnf
 refine ⟨?_,trivial⟩
|apply s_1
 conv => whnf; arg 1; arg 4; arg 3; whnf
 refine ⟨?_,?_⟩
|apply z7 rfl
 . conv => lhs; whnf
 . conv => lhs; whnf; arg 2; whnf
|apply zl rfl
 . conv => lhs; whnf
 . conv => lhs; whnf
 . first | exact hd
|apply zN
 . conv => lhs; whnf; arg 1; arg 1; whnf
|apply zO
 . conv => lhs; whnf; arg 1; arg 1; whnf
|refine zW (by conv => lhs; whnf) ?_ ?_ <;> intro hb
|refine zn ?_
|refine zb ?_
|refine zH ?_
|refine zL ?_
|refine zG ?_
|refine zD rfl ?_
|refine zF rfl ?_
|refine zE ?_
|refine zJ ?_
|refine zC ?_
|refine zK ?_
|refine z8 ?_
|refine zI ?_
|refine ⟨_,by conv => lhs; whnf; arg 2; whnf,?_⟩; conv => rhs; whnf
|exact trivial
|intro hg)
 . have e : l.length = 0:=by have : ((l.length : Int)) = 0:=by simpa using hb
                             omega
   rw [zCe,if_pos e]; rfl
 . have e : ¬ l.length = 0:=by have : ¬ ((l.length : Int)) = 0:=by simpa using hb
                               omega
   rw [zCe,if_neg e,<- zz]; rfl
 . exact sz2 hds
noncomputable def HgP (k : Nat) (l : List D) (i : Nat) : Vst 30:=
 stS 30 [(3,.own 3 9 (zAH (fun i => argT k (gD l i)) i)),(9,.sl 68 l),(10,.c (.int .i64 l.length)),(11,.c (.int .i64 i))] [(3,.tok 9 (zAH (fun i => argT k (gD l i)) i).length)]
theorem argsP_ac (k : Nat) (l : List D) (h : ArgsOk k l) : AC EN Tryz.prog 196 [.sl 68 l] (.c (.string (bs (parT k l)))):=by
 have hlen:=h.len
 have hds:=zEO k l h.wide
 have hbk:=h.bulk
 have hj:=zBp (zAH (fun i => argT k (gD l i)) l.length) [44,32] (by rw [zAe]; omega) (by rw [zA3]; exact Nat.le_trans hds (by omega))
 rw [zA3] at hj
 refine zh 30 Tryz.func196 rfl rfl rfl rfl ?_
 intro s w he
 repeat' (first
|refine zB ?_
|refine zM ?_
|refine zk ?_
|refine zV ?_
|refine zd ?_
|apply aw_1
 conv => whnf
 refine ⟨?_,trivial⟩
|apply s_1
 conv => whnf; arg 1; arg 4; arg 3; whnf
 refine ⟨?_,?_⟩
|apply z7 rfl
 . conv => lhs; whnf
 . conv => lhs; whnf; arg 2; whnf
|apply zl rfl
 . conv => lhs; whnf
 . conv => lhs; whnf
 . first | fail
|apply zr rfl rfl rfl rfl
 . conv => lhs; whnf; arg 1; whnf
 . rfl
|apply zq rfl rfl rfl
 . conv => lhs; whnf
 . conv => lhs; whnf; arg 1; whnf
 . conv => lhs; whnf; arg 1; whnf
 . exact ⟨by kernel_rfl,by kernel_rfl⟩
 . rfl
|apply zAu rfl rfl
 . conv => lhs; whnf
 . first | (conv => lhs; whnf; arg 1; whnf)
 . first | exact fun _ => rfl | (intro _; kernel_rfl)
 . conv => lhs; whnf
 . conv => lhs; whnf; arg 1; whnf
 . conv => lhs; whnf
|apply zx rfl rfl rfl rfl
 . first | (conv => lhs; whnf; arg 1; whnf)
 . first | exact fun _ => rfl | (intro _; kernel_rfl)
 . conv => lhs; whnf
 . conv => lhs; whnf
|apply zAU rfl rfl
 . conv => lhs; whnf
 . first | (conv => lhs; whnf; arg 1; whnf)
|apply zAT rfl rfl
 . conv => lhs; whnf
 . first | (conv => lhs; whnf; arg 1; whnf)
 . conv => lhs; whnf; arg 1; whnf
 . rfl
 . rfl
|apply zAO rfl rfl
 . conv => lhs; whnf
 . first | (conv => lhs; whnf; arg 1; whnf)
 . first | exact fun _ => rfl | (intro _; kernel_rfl)
 . conv => lhs; whnf
 . conv => lhs; whnf
|apply zw (by kernel_rfl) (by kernel_rfl)
|apply zAd
|apply zAc rfl
 . conv => lhs; whnf
 . conv => lhs; whnf; arg 2; whnf
|apply zAQ rfl
 . conv => lhs; whnf
 . conv => lhs; whnf
 . first | fail
|apply zAD rfl rfl rfl
 . conv => lhs; whnf
 . rfl
 . rfl
 . conv => lhs; whnf; arg 1; whnf
 . conv => lhs; whnf; arg 1; whnf
 . exact ⟨by kernel_rfl,by kernel_rfl⟩
 . rfl
|apply zAz rfl rfl
 . conv => lhs; whnf
 . first | (conv => lhs; whnf; arg 1; whnf)
 . first | exact fun _ => rfl | (intro _; kernel_rfl)
 . conv => lhs; whnf
 . rfl
 . rfl
 . conv => lhs; whnf; arg 1; whnf
 . conv => lhs; whnf
|apply zAa rfl rfl
 . conv => lhs; whnf
 . first | (conv => lhs; whnf; arg 1; whnf)
|apply zAZ rfl rfl
 . conv => lhs; whnf
 . first | (conv => lhs; whnf; arg 1; whnf)
 . conv => lhs; whnf; arg 1; whnf
 . rfl
 . rfl
|apply zAS rfl rfl
 . conv => lhs; whnf
 . first | (conv => lhs; whnf; arg 1; whnf)
 . first | exact fun _ => rfl | (intro _; kernel_rfl)
 . conv => lhs; whnf
 . conv => lhs; whnf
|exact zX
|exact ze
|exact all_nil
|show List.all _ _ = true; rfl
|show zAB _ _ = true; rfl
|exact ([] : List Nat)
|exact (1000000 : Nat)
|apply zN
 . conv => lhs; whnf; arg 1; arg 1; whnf
|apply zO
 . conv => lhs; whnf; arg 1; arg 1; whnf
|refine zW (by conv => lhs; whnf) ?_ ?_ <;> intro hb
|refine zn ?_
|refine zb ?_
|refine zH ?_
|refine zL ?_
|refine zG ?_
|refine zD rfl ?_
|refine zF rfl ?_
|refine zE ?_
|refine zJ ?_
|refine zC ?_
|refine zK ?_
|refine z8 ?_
|refine zI ?_
|refine ⟨_,by conv => lhs; whnf; arg 2; whnf,?_⟩; conv => rhs; whnf
|exact trivial
|intro hg)
 . have e : l.length = 0:=by have : ((l.length : Int)) = 0:=by simpa using hb
                             omega
   rw [parT,if_pos e]; rfl
 . have e : ¬ l.length = 0:=by have : ¬ ((l.length : Int)) = 0:=by simpa using hb
                               omega
   refine zAF (Sub.own (t:=3) (e:=9) rfl rfl) ?_
   refine zAG (fun j st => ∃ i,i + j = l.length /\ Sub (cx EN Tryz.prog s w he) st (HgP k l i)) l.length ⟨0,by omega,?_⟩ ?_
   . exact Sub.live ⟨rfl,rfl,rfl,rfl,trivial⟩ ⟨rfl,trivial⟩
   . rintro j st ⟨i,hij,hs2⟩
     refine zAF hs2 ?_
     have htk:=zAe (fun i => argT k (gD l i)) i
     have hj2 : decide ((i : Int) < (l.length : Int)) = false -> AC EN Tryz.prog 98 [.sl 9 (zAH (fun i => argT k (gD l i)) i),.c (.string (bs [44,32]))] (.c (.string (bs (zHI k l)))):=fun hh => by
      have e : i = l.length:=by have:=zFn hh; omega
      rw [e]; exact hj
     have hv : decide ((i : Int) < (l.length : Int)) = true -> AC EN Tryz.prog 170 [.agg (cellsV Tryz.prog 12 62 ((gD l i).f 1))] (.c (.string (bs (valT k ((gD l i).f 1))))):=fun hh =>
      zCw k _ (h.dp i (zBF hh)) ((h.wide i).f 1) (h.good i (zBF hh)) (h.val (zBF hh))
     repeat' (first
|refine zB ?_
|refine zM ?_
|refine zk ?_
|refine zV ?_
|refine zd ?_
|apply aw_1
 conv => whnf
 refine ⟨?_,trivial⟩
|apply s_1
 conv => whnf; arg 1; arg 4; arg 3; whnf
 refine ⟨?_,?_⟩
|apply z7 rfl
 . conv => lhs; whnf
 . conv => lhs; whnf; arg 2; whnf
|apply zl rfl
 . conv => lhs; whnf
 . conv => lhs; whnf
 . first | exact hv ‹_› | exact hj2 ‹_›
|apply zr rfl rfl rfl rfl
 . conv => lhs; whnf; arg 1; whnf
 . rfl
|apply zq rfl rfl rfl
 . conv => lhs; whnf
 . conv => lhs; whnf; arg 1; whnf
 . conv => lhs; whnf; arg 1; whnf
 . exact ⟨by kernel_rfl,by kernel_rfl⟩
 . rfl
|apply zAu rfl rfl
 . conv => lhs; whnf
 . first | exact zZ | (conv => lhs; whnf; arg 1; whnf)
 . first | exact fun _ => rfl | (intro _; kernel_rfl)
 . conv => lhs; whnf
 . conv => lhs; whnf; arg 1; whnf
 . conv => lhs; whnf
|apply zx rfl rfl rfl rfl
 . first | exact zZ | (conv => lhs; whnf; arg 1; whnf)
 . first | exact fun _ => rfl | (intro _; kernel_rfl)
 . conv => lhs; whnf
 . conv => lhs; whnf
|apply zAU rfl rfl
 . conv => lhs; whnf
 . first | exact zZ | (conv => lhs; whnf; arg 1; whnf)
|apply zAT rfl rfl
 . conv => lhs; whnf
 . first | exact zZ | (conv => lhs; whnf; arg 1; whnf)
 . conv => lhs; whnf; arg 1; whnf
 . rfl
 . rfl
|apply zAO rfl rfl
 . conv => lhs; whnf
 . first | exact zZ | (conv => lhs; whnf; arg 1; whnf)
 . first | exact fun _ => rfl | (intro _; kernel_rfl)
 . conv => lhs; whnf
 . conv => lhs; whnf
|apply zw (by kernel_rfl) (by kernel_rfl)
|apply zAd
|apply zAc rfl
 . conv => lhs; whnf
 . conv => lhs; whnf; arg 2; whnf
|apply zAQ rfl
 . conv => lhs; whnf
 . conv => lhs; whnf
 . first | exact hv ‹_› | exact hj2 ‹_›
|apply zAD rfl rfl rfl
 . conv => lhs; whnf
 . rfl
 . rfl
 . conv => lhs; whnf; arg 1; whnf
 . conv => lhs; whnf; arg 1; whnf
 . exact ⟨by kernel_rfl,by kernel_rfl⟩
 . rfl
|apply zAz rfl rfl
 . conv => lhs; whnf
 . first | exact zZ | (conv => lhs; whnf; arg 1; whnf)
 . first | exact fun _ => rfl | (intro _; kernel_rfl)
 . conv => lhs; whnf
 . rfl
 . rfl
 . conv => lhs; whnf; arg 1; whnf
 . conv => lhs; whnf
|apply zAa rfl rfl
 . conv => lhs; whnf
 . first | exact zZ | (conv => lhs; whnf; arg 1; whnf)
|apply zAZ rfl rfl
 . conv => lhs; whnf
 . first | exact zZ | (conv => lhs; whnf; arg 1; whnf)
 . conv => lhs; whnf; arg 1; whnf
 . rfl
 . rfl
|apply zAS rfl rfl
 . conv => lhs; whnf
 . first | exact zZ | (conv => lhs; whnf; arg 1; whnf)
 . first | exact fun _ => rfl | (intro _; kernel_rfl)
 . conv => lhs; whnf
 . conv => lhs; whnf
|exact zX
|exact ze
|exact all_nil
|show List.all _ _ = true; rfl
|show zAB _ _ = true; rfl
|exact ([] : List Nat)
|exact (1000000 : Nat)
|apply zN
 . conv => lhs; whnf; arg 1; arg 1; whnf
|apply zO
 . conv => lhs; whnf; arg 1; arg 1; whnf
|refine zW (by conv => lhs; whnf) ?_ ?_ <;> intro hb
|refine zn ?_
|refine zb ?_
|refine zH ?_
|refine zL ?_
|refine zG ?_
|refine zD rfl ?_
|refine zF rfl ?_
|refine zE ?_
|refine zJ ?_
|refine zC ?_
|refine zK ?_
|refine z8 ?_
|refine zI ?_
|refine ⟨_,by conv => lhs; whnf; arg 2; whnf,?_⟩; conv => rhs; whnf
|exact trivial
|intro hg)
     . have hi:=zBF hb
       refine zY (j':=j - 1) (by omega) ⟨i + 1,by omega,Sub.live ⟨?_,rfl,rfl,rfl,trivial⟩ ⟨?_,trivial⟩⟩
       . show V.own 3 _ (zAH _ i ++ [.str (((gD l i).f 0).s ++ ⟨#[58,32]⟩ ++ bs _)]) = _
         rw [zAK,argT,<- zz,<- zz,zCM]; rfl
       . show some (Res.tok _ ((zAH _ i).length + 1)) = _
         rw [zAK,List.length_append]; rfl
     . exact zAN (by have:=zBF hb; omega)
     . exact zCO (by have:=zBF hb; omega) (by omega)
     . have h1:=h.name (zBF hb)
       have h2:=h.text (zBF hb)
       show (((gD l i).f 0).s ++ ⟨#[58,32]⟩).size + (bs (valT k ((gD l i).f 1))).size <= maxLen
       (simp only [ByteArray.size_append,zAJ,zAR,List.size_toArray,List.length_append,List.length_cons,List.length_nil,maxLen,Nat.reduceAdd,Int.toNat_natCast]; omega)
     . have h1:=h.name (zBF hb)
       show (((gD l i).f 0).s).size + (⟨#[58,32]⟩ : ByteArray).size <= maxLen
       (simp only [ByteArray.size_append,zAJ,zAR,List.size_toArray,List.length_append,List.length_cons,List.length_nil,maxLen,Nat.reduceAdd,Int.toNat_natCast]; omega)
     . exact at_ok hb
     . rw [parT,if_neg e,<- zz,<- zz]; rfl
     . exact sz3 hds
     . exact sz2 hds
def refB (n : List UInt8) : List D -> List UInt8
 | [] => n
 | d :: ds => if d.n == 1 then refB n ds ++ [33] else [91] ++ refB n ds ++ [93]
theorem zCp (n : List UInt8) : ∀ l,(refB n l).length <= n.length + 2 * l.length
 | [] => by simp [refB]
 | d :: ds => by
   have:=zCp n ds
   unfold refB
   split <;> simp <;> omega
end Go.Proofs.YtdlnnlglmifceaaGreatDoor
namespace Go.Proofs.YtdlnnlglmifceaaGreatDoor
open Go.RowKit
attribute [local irreducible] wpList Calls Code.wp
def LiesB (T : TypeId) : Prop:=liesAt Tryz.prog Tryz.prog.depth T (2 / Tryz.prog.cellsOf T) 0 114 1 = true
theorem zGX {T : TypeId} (hT : LiesB T) (b : Nat) (w : World) (h0 : w.cell? ⟨b,0,none⟩ = some (.pointer none)) (hsh : w.shape? b = some (T,2)) (hfz : w.frozen? ⟨b,0,none⟩ = false) :
 Calls Tryz.prog 96 #[.pointer (some ⟨b,0,none⟩)] w fun e w' => e = .returned (.tuple #[]) /\ w' = w.setCell ⟨b,0,none⟩ (.pointer (some ⟨b,0,none⟩)):=by
 obtain ⟨j,hj,hjs⟩:=Option.map_eq_some_iff.1 bSize
 go_enter Tryz.func96,Tryz.ntmps96
 go_wp2
 rw [Lib.run_to_unsafe w ⟨b,0,none⟩ Tryz.underlying111 Tryz.underlying177 hj (by rw [hjs]; decide) hsh (Nat.zero_lt_succ 1)]
 simp only [Result.andThen]
 rw [Oper.upon_value]
 go_wp2
 rw [run_callFunc_extern Tryz.func132 (by kernel_rfl) (by kernel_rfl) (by kernel_rfl) (e:=Extern.AbiNoEscape.same) (by kernel_rfl)]
 rw [Lib.run_noEscape]
 simp only [Result.andThen]
 rw [Oper.upon_value]
 go_wp2
 rw [Lib.run_from_unsafe w ⟨b,0,none⟩ Tryz.underlying177 Tryz.underlying111 hj hsh hT]
 simp only [Result.andThen]
 rw [Oper.upon_value]
 go_wp2
 go_end0
 exact ⟨rfl,rfl⟩
def BldAtW (T : TypeId) (b : Nat) (l : List UInt8) (v p : Value) (w : World) : Prop:=
 w.heap[b]? = some (.cells #[p,v] T (0,0)) /\ (p = .pointer none \/ p = .pointer (some ⟨b,0,none⟩)) /\ w.ownsRowF 0 5 1 v l.length (Lib.byteCells l) /\ v.ownBlock ≠ some b
def zE6 (T : TypeId) (b : Nat) (v : Value) (l : List UInt8) (w w' : World) : Prop:=
 ∃ v' p',BldAtW T b l v' p' w' /\ Frm (fun k => k = b \/ v.ownBlock = some k) w w' /\ ∀ g,v'.ownBlock = some g -> v.ownBlock = some g \/ w.heap.size <= g
theorem zGY {T : TypeId} {e : Ge} {f : FuncId} {cargs : List Value} {l l' : List UInt8} {r : Value} (rv : V) (hr : ∀ s w,rel Tryz.prog s w rv r) (h : ∀ b v p w,BldAtW T b l v p w -> Calls Tryz.prog f (Value.pointer (some ⟨b,0,none⟩) :: cargs).toArray w fun e w' => e = .returned r /\ zE6 T b v l' w w') :
 ACB e Tryz.prog f (.bx (pn 0) 0 :: cargs.map .c) [.bld T 5 l] rv [.bld T 5 l']:=by
 intro pas s w us hus hmem _ _
 obtain ⟨b,v,p,h1,h2,h3,h4,h5,h6,h7,h8⟩:=hmem.ho (pn 0) _ (rsOf_pn _ 0)
 have hus2 : us = (Value.pointer (some ⟨b,0,none⟩) :: cargs).toArray:=by
  apply Array.ext'
  simp only [List.toList_toArray]
  cases hl : us.toList with
  | nil => rw [hl] at hus; simp [relL] at hus
  | cons x xs =>
    rw [hl,relL,rel] at hus
    obtain ⟨⟨b',hb',rfl⟩,hxs⟩:=hus
    rw [h1] at hb'; cases hb'
    rw [zCo hxs]
 rw [hus2]
 refine (h b v p w ⟨h2,h3,h4,h5⟩).mono ?_
 rintro e w' ⟨rfl,v',p',⟨q1,q2,q3,q4⟩,hfr,hg⟩
 have hbl : b < w.heap.size:=(Array.getElem?_eq_some_iff.1 h2).1
 have hpb : pas b:=by
  rcases hmem.bs (pn 0) _ b (rsOf_pn _ 0) (.inl h1) with h9 | h9
  . omega
  . exact h9
 have hpg : ∀ g,v.ownBlock = some g -> pas g:=fun g hg' => by
  have:=(h4.lt g hg').2
  rcases hmem.bs (pn 0) _ g (rsOf_pn _ 0) (.inr (h6.trans hg')) with h9 | h9
  . omega
  . exact h9
 have hfr2 : Frm pas w w':=⟨hfr.os,hfr.tape,hfr.output,hfr.size,fun k hk hp => hfr.block k hk fun hh => hp (hh.elim (fun e => by rw [e]; exact hpb) (hpg k))⟩
 have hcell : ∀ k o,s.F k o -> w'.cell? ⟨k,o,none⟩ = w.cell? ⟨k,o,none⟩:=fun k o hF => by
  obtain ⟨x,hx⟩:=Option.isSome_iff_exists.1 (hmem.fx k o hF)
  exact World.cell?_of_block (w:=w) (hfr.block k (block_lt_of_cell hx) fun hh => hh.elim (fun e => by rw [e] at hF; exact h7 o hF) (fun e => h8 k o e hF))
 let s' : Sg:={ s with tb:=fun q => if q = pn 0 then v'.ownBlock else s.tb q }
 have htb : s'.tb (pn 0) = v'.ownBlock:=by show (if pn 0 = pn 0 then v'.ownBlock else s.tb (pn 0)) = _; rw [if_pos rfl]
 refine ⟨r,s',rfl,hfr2,fun k o hF => ⟨hcell k o hF,hF⟩,fun _ _ _ _ h => h,⟨fun k o hF => by rw [hcell k o hF]; exact hmem.fx k o hF,fun n ρ hn => ?_,fun n ρ k hn hk => ?_,fun n m ρ ρ' k hn hm _ _ => ?_⟩,PE.refl _,hr _ _⟩
 . obtain ⟨i,rfl,hi⟩:=zAk hn
   cases i with
   | zero =>
     simp at hi; subst hi
     refine ⟨b,v',p',h1,q1,q2,q3,q4,htb,h7,fun g o hg' hF => ?_⟩
     rcases hg g hg' with h9 | h9
     . exact h8 g o h9 hF
     . obtain ⟨x,hx⟩:=Option.isSome_iff_exists.1 (hmem.fx g o hF)
       have:=block_lt_of_cell hx
       simp at this; omega
   | succ i => simp at hi
 . obtain ⟨i,rfl,hi⟩:=zAk hn
   cases i with
   | zero =>
     simp at hi; subst hi
     rcases hk with hk | hk
     . rw [show s'.bx (pn 0) = s.bx (pn 0) from rfl,h1] at hk; cases hk; exact .inr hpb
     . rw [htb] at hk
       rcases hg k hk with h9 | h9
       . exact .inr (hpg k h9)
       . exact .inl h9
   | succ i => simp at hi
 . obtain ⟨i,rfl,hi⟩:=zAk hn
   obtain ⟨j,rfl,hj⟩:=zAk hm
   cases i with
   | zero => cases j with
     | zero => rfl
     | succ j => simp at hj
   | succ i => simp at hi
theorem bld_acbW {T : TypeId} {e : Ge} {f : FuncId} {cargs : List Value} {l l' : List UInt8} {r : Value} (hr : okV r) (h : ∀ b v p w,BldAtW T b l v p w -> Calls Tryz.prog f (Value.pointer (some ⟨b,0,none⟩) :: cargs).toArray w fun e w' => e = .returned r /\ zE6 T b v l' w w') :
 ACB e Tryz.prog f (.bx (pn 0) 0 :: cargs.map .c) [.bld T 5 l] (.c r) [.bld T 5 l']:=
 zGY (.c r) (fun s w => by rw [rel]; exact ⟨rfl,hr⟩) h
theorem check_bW {T : TypeId} (hT : LiesB T) (b : Nat) (l : List UInt8) (v p : Value) (w : World) (h : BldAtW T b l v p w) :
 Calls Tryz.prog 96 #[.pointer (some ⟨b,0,none⟩)] w fun e w' => e = .returned (.tuple #[]) /\ BldAtW T b l v (.pointer (some ⟨b,0,none⟩)) w' /\ Frm (fun k => k = b) w w' /\ w'.heap.size = w.heap.size:=by
 obtain ⟨q1,q2,q3,q4⟩:=h
 have c0 : w.cell? ⟨b,0,none⟩ = some p:=by rw [Lib.cell_of_heap q1]; rfl
 rcases q2 with rfl | rfl
 . refine (zGX hT b w c0 (by simp [World.shape?,q1]) (Lib.frozen_of_heap q1 0)).mono ?_
   rintro e w' ⟨rfl,rfl⟩
   have hb : (w.setCell ⟨b,0,none⟩ (.pointer (some ⟨b,0,none⟩))).heap[b]? = some (.cells #[.pointer (some ⟨b,0,none⟩),v] T (0,0)):=by
    simp [World.setCell,Array.getElem?_modify,q1]
   refine ⟨rfl,⟨hb,.inr rfl,zAt q3 fun g hg => Below.heap_setCell _ _ _ _ fun e => q4 (by rw [hg,e]),q4⟩,⟨rfl,rfl,rfl,by simp [World.setCell],fun k _ hk => Below.heap_setCell _ _ _ _ hk⟩,by simp [World.setCell]⟩
 . refine (zDQ b w c0).mono ?_
   rintro e w' ⟨rfl,rfl⟩
   exact ⟨rfl,⟨q1,.inr rfl,q3,q4⟩,Frm.refl _ _,rfl⟩
theorem post_bW {T : TypeId} {w0 w1 w2 : World} {b : Nat} {v v' p : Value} {l l' : List UInt8} (hb : b < w1.heap.size) (hs : w0.heap.size <= w1.heap.size) (h1 : Frm (fun k => k = b) w0 w1) (hb1 : w1.heap[b]? = some (.cells #[.pointer (some ⟨b,0,none⟩),v] T (0,0))) (hne : v.ownBlock ≠ some b)
 (hown : w2.ownsRowF 0 5 1 v' l'.length (Lib.byteCells l')) (hg : w1.grownBy w2 v.ownBlock) (hl : ∀ g,v'.ownBlock = some g -> v.ownBlock = some g \/ w1.heap.size <= g) :
 w2.heap[b]? = some (.cells #[.pointer (some ⟨b,0,none⟩),v] T (0,0)) /\ zE6 T b v l' w0 (w2.setCell ⟨b,1,none⟩ v'):=by
 have hb2 : w2.heap[b]? = some (.cells #[.pointer (some ⟨b,0,none⟩),v] T (0,0)):=by rw [hg.block b hb (fun e => hne e.symm)]; exact hb1
 have hne' : v'.ownBlock ≠ some b:=fun e => by
  rcases hl b e with h | h
  . exact hne h
  . omega
 have hb3 : (w2.setCell ⟨b,1,none⟩ v').heap[b]? = some (.cells #[.pointer (some ⟨b,0,none⟩),v'] T (0,0)):=by simp [World.setCell,Array.getElem?_modify,hb2]
 refine ⟨hb2,v',_,⟨hb3,.inr rfl,zAt hown fun g hg' => Below.heap_setCell _ _ _ _ fun e => hne' (by rw [hg',e]),hne'⟩,⟨hg.os.trans h1.os,hg.tape.trans h1.tape,hg.output.trans h1.output,Nat.le_trans hs (Nat.le_trans hg.size (by simp [World.setCell])),fun k hk hnk => ?_⟩,fun g hg' => (hl g hg').imp id fun h => Nat.le_trans hs h⟩
 rw [Below.heap_setCell _ _ _ _ (fun e => hnk (.inl e)),hg.block k (by omega) (fun e => hnk (.inr e.symm)),h1.block k hk fun e => hnk (.inl e)]
theorem zES {T : TypeId} (hT : LiesB T) (b : Nat) (l : List UInt8) (v p : Value) (w : World) (h : BldAtW T b l v p w) (s : ByteArray) (hlen : l.length + s.size <= 140737488355328) :
 Calls Tryz.prog 59 #[.pointer (some ⟨b,0,none⟩),.string s] w fun e w' => e = .returned (.tuple #[.int .i64 s.size,.nilIface]) /\ zE6 T b v (l ++ s.data.toList) w w':=by
 have H:=Lib.hid (check_bW hT b l v p w h)
 clear h
 go_enter Tryz.func59,Tryz.ntmps59
 go_wp2_with fail
 refine H.out.mono ?_
 rintro e w1 ⟨rfl,⟨q1,-,q3,q4⟩,hf,hsz⟩
 have Hsz:=Lib.hid (show w.heap.size <= w1.heap.size by omega); clear hsz
 have hlt : b < w1.heap.size:=(Array.getElem?_eq_some_iff.1 q1).1
 have c1 : w1.cell? ⟨b,1,none⟩ = some v:=by rw [Lib.cell_of_heap q1]; rfl
 go_wp2_with (at_builtin; refine zIJ rfl _ _ 112 9 5 rfl Tryz.underlying112 Tryz.underlying9 zFt v l.length (Lib.byteCells l) rfl q3 s rfl (by unfold maxLen; omega) hlen ?_)
 intro v' w2 hown' hgrow hl
 have hcell : Lib.byteCells (l ++ s.data.toList) = Lib.byteCells l ++ Lib.strCells s:=by rw [Lib.byteCells_append,Lib.strCells_eq]
 have hll : l.length + s.size = (l ++ s.data.toList).length:=by rw [List.length_append]; rfl
 rw [<- hcell,hll] at hown'
 obtain ⟨hb2,hpost⟩:=post_bW (l':=l ++ s.data.toList) (l:=l) (p:=p) hlt Hsz.out hf q1 q4 hown' hgrow hl
 have d1 : w2.cell? ⟨b,1,none⟩ = some v:=by rw [Lib.cell_of_heap hb2]; rfl
 have f1 : w2.frozen? ⟨b,1,none⟩ = false:=Lib.frozen_of_heap hb2 1
 obtain ⟨ao,n',cap,rfl⟩ : ∃ ao n' cap,v' = .slice ao n' cap:=by
  rcases hown'.2 with ⟨hv,_⟩ | ⟨g,cap,cur,fz,hv,_⟩
  . exact ⟨_,_,_,hv⟩
  . exact ⟨_,_,_,hv⟩
 have Hp:=Lib.hid hpost
 clear hpost hown' hgrow hl q3 hll hcell
 go_wp2
 go_ret2
 exact ⟨rfl,Hp.out⟩
theorem zFP {T : TypeId} {w w' : World} {b : Nat} {v p : Value} {l : List UInt8} (h : BldAtW T b l v p w) (hf : Frm (fun k => k = b \/ v.ownBlock = some k) w w') (hb : w'.heap[b]? = w.heap[b]?) (hg : w'.ownsRowF 0 5 1 v l.length (Lib.byteCells l)) : zE6 T b v l w w':=
 ⟨v,p,⟨hb.trans h.1,h.2.1,hg,h.2.2.2⟩,hf,fun _ hg => .inl hg⟩
theorem string_bW {T : TypeId} (b : Nat) (l : List UInt8) (v p : Value) (w : World) (h : BldAtW T b l v p w) :
 Calls Tryz.prog 63 #[.pointer (some ⟨b,0,none⟩)] w fun e w' => e = .returned (.string ⟨l.toArray⟩) /\ zE6 T b v l w w':=by
 have h':=h
 obtain ⟨q1,q2,q3,q4⟩:=h
 have hUS0 : ∀ (W : World) (q : Option Addr),(Builtin.unsafeString_ #[152,3] 9 #[.pointer q,.int .i64 0]).run Tryz.prog W = .ok (.string ByteArray.empty) W:=Any.unsafeString_none Tryz.lays169 Tryz.Builder_Extra_169
 have mixed : Tryz.prog.follows .mixedOrders = true:=by kernel_rfl
 have hbl : b < w.heap.size:=(Array.getElem?_eq_some_iff.1 q1).1
 rcases q3.2 with ⟨rfl,h0⟩ | ⟨g,cap,cur,fz,rfl,hbg,hg,hfz,hnc,hcm,hcs,htake⟩
 . have hl : l = []:=List.eq_nil_of_length_eq_zero h0
   subst hl
   have c1 : w.drew.cell? ⟨b,1,none⟩ = some (.slice none 0 0):=by
    have : w.drew.heap[b]? = some (.cells #[p,.slice none 0 0] T (0,0)):=q1
    rw [Lib.cell_of_heap this]; rfl
   have hSD : (Builtin.unsafeSliceData_ #[112] 152 #[.slice none 0 0]).run Tryz.prog w.drew = .ok (.pointer none) w.drew:=rfl
   have HP:=Lib.hid (zFP (w':=w.drew) h' ⟨rfl,rfl,rfl,Nat.le_refl _,fun _ _ _ => rfl⟩ rfl q3)
   clear h' q3 q4 q1 h0
   go_enter Tryz.func63,Tryz.ntmps63
   go_wp2
   go_region_o
   all_goals (go_wp2; go_ret; exact ⟨rfl,HP.out⟩)
 . have hbg' : b ≠ g:=fun e => q4 (by rw [e]; rfl)
   by_cases hl0 : l = []
   . subst hl0
     by_cases hc0 : cap = 0
     . subst hc0
       have c1 : w.drew.cell? ⟨b,1,none⟩ = some (.slice (some ⟨g,0,none⟩) 0 0):=by
        have : w.drew.heap[b]? = some (.cells #[p,.slice (some ⟨g,0,none⟩) 0 0] T (0,0)):=q1
        rw [Lib.cell_of_heap this]; rfl
       have hSD : (Builtin.unsafeSliceData_ #[112] 152 #[.slice (some ⟨g,0,none⟩) 0 0]).run Tryz.prog w.drew = .ok (.pointer (some ⟨w.drew.heap.size,0,none⟩)) (w.drew.alloc (.view ⟨g,0,none⟩ 5)):=
        Lib.run_unsafeSliceData_zero w.drew _ _ 5 Tryz.underlying152 ⟨g,0,none⟩ 0 (5,cur.size) (by have hg' : w.drew.heap[g]? = some (.cells cur 5 fz):=hg; simp [World.shape?,hg'])
       have c2 : (w.drew.alloc (.view ⟨g,0,none⟩ 5)).cell? ⟨b,1,none⟩ = some (.slice (some ⟨g,0,none⟩) 0 0):=by
        have : (w.drew.alloc (.view ⟨g,0,none⟩ 5)).heap[b]? = _:=(Lib.alloc_old w.drew _ b hbl).trans q1
        rw [Lib.cell_of_heap this]; rfl
       have c3 : (w.alloc (.view ⟨g,0,none⟩ 5)).drew.cell? ⟨b,1,none⟩ = some (.slice (some ⟨g,0,none⟩) 0 0):=c2
       have c0 : w.cell? ⟨b,1,none⟩ = some (.slice (some ⟨g,0,none⟩) 0 0):=c1
       have HP:=Lib.hid (zFP (w':=w.drew.alloc (.view ⟨g,0,none⟩ 5)) h' (zCX w _ _) (Below.heap_alloc w.drew _ b hbl) (zAt q3 fun k hk => Below.heap_alloc w.drew _ k (q3.lt k hk).2))
       clear h' q3 q4 q1 hg htake hcs hbg hbg' hnc hcm hfz
       go_enter Tryz.func63,Tryz.ntmps63
       go_wp2
       go_region_o
       all_goals (go_wp2; go_ret; exact ⟨rfl,HP.out⟩)
     . have c1 : w.drew.cell? ⟨b,1,none⟩ = some (.slice (some ⟨g,0,none⟩) 0 cap):=by
        have : w.drew.heap[b]? = some (.cells #[p,.slice (some ⟨g,0,none⟩) 0 cap] T (0,0)):=q1
        rw [Lib.cell_of_heap this]; rfl
       have hSD : (Builtin.unsafeSliceData_ #[112] 152 #[.slice (some ⟨g,0,none⟩) 0 cap]).run Tryz.prog w.drew = .ok (.pointer (some ⟨g,0,none⟩)) w.drew:=
        Lib.run_unsafeSliceData_row _ _ _ _ _ _ hc0
       have HP:=Lib.hid (zFP (w':=w.drew) h' ⟨rfl,rfl,rfl,Nat.le_refl _,fun _ _ _ => rfl⟩ rfl q3)
       clear h' q3 q4 q1 hg htake hcs hbg hbg' hnc hcm hfz hc0
       go_enter Tryz.func63,Tryz.ntmps63
       go_wp2
       go_region_o
       all_goals (go_wp2; go_ret; exact ⟨rfl,HP.out⟩)
   . have hln : l.length ≠ 0:=by simpa using hl0
     have c1 : w.drew.cell? ⟨b,1,none⟩ = some (.slice (some ⟨g,0,none⟩) l.length cap):=by
      have : w.drew.heap[b]? = some (.cells #[p,.slice (some ⟨g,0,none⟩) l.length cap] T (0,0)):=q1
      rw [Lib.cell_of_heap this]; rfl
     have hSD : (Builtin.unsafeSliceData_ #[112] 152 #[.slice (some ⟨g,0,none⟩) l.length cap]).run Tryz.prog w.drew = .ok (.pointer (some ⟨g,0,none⟩)) w.drew:=
      Lib.run_unsafeSliceData_row _ _ _ _ _ _ (by omega)
     have hUS : (Builtin.unsafeString_ #[152,3] 9 #[.pointer (some ⟨g,0,none⟩),.int .i64 l.length]).run Tryz.prog w.drew = .ok (.string ⟨l.toArray⟩) (w.drew.freeze ⟨g,0,none⟩ l.length):=by
      refine Lib.run_unsafeString_row w.drew 152 3 9 5 Tryz.underlying152 Tryz.Builder_Extra_169.cellsByte g cur.size (by have hg' : w.drew.heap[g]? = some (.cells cur 5 fz):=hg; simp [World.shape?,hg']) l hl0 (by omega) (by unfold maxLen at hcm; omega) ?_
      intro j x hx
      exact q3.cells (g:=g) rfl j (.int .u8 x.toNat) (by simp [Lib.byteCells,hx])
     have hfro : (w.drew.freeze ⟨g,0,none⟩ l.length).ownsRowF 0 5 1 (.slice (some ⟨g,0,none⟩) l.length cap) l.length (Lib.byteCells l):=by
      obtain ⟨lo,hi⟩:=fz
      have hg' : w.drew.heap[g]? = some (.cells cur 5 (lo,hi)):=hg
      have hf2 : (w.drew.freeze ⟨g,0,none⟩ l.length).heap[g]? = some (.cells cur 5 (if lo == hi then (0,0 + l.length) else (min lo 0,max hi (0 + l.length)))):=by
       unfold World.freeze
       rw [if_neg hln]
       simp only [Array.getElem?_modify,if_true,hg']
       rfl
      refine ⟨q3.1,.inr ⟨g,cap,cur,_,rfl,Nat.zero_le _,hf2,?_,hnc,hcm,hcs,htake⟩⟩
      simp only at hfz
      split <;> simp <;> omega
     have HP:=Lib.hid (zFP (w':=w.drew.freeze ⟨g,0,none⟩ l.length) h' ⟨zBJ.1,zBJ.2.1,zBJ.2.2,by rw [zD9]; exact Nat.le_refl _,fun k _ hk => zBm fun e => hk (.inr (by rw [e]; rfl))⟩ (zBm hbg') hfro)
     clear h' q3 q4 q1 hg htake hcs hbg hbg' hnc hcm hfz hfro
     go_enter Tryz.func63,Tryz.ntmps63
     go_wp2
     go_region_o
     all_goals (go_wp2; go_ret; exact ⟨rfl,HP.out⟩)
end Go.Proofs.YtdlnnlglmifceaaGreatDoor
namespace Go.Proofs.YtdlnnlglmifceaaGreatDoor
open Go.RowKit
attribute [local irreducible] wpList Calls Code.wp AW AWo OpOk seqK zAi zAp loopK endK AC zAC Yld Sub
attribute [local irreducible] ACB absLexG YldG
theorem zDf {e : Ge} {T : TypeId} (hT : LiesB T) (l : List UInt8) (s : ByteArray) (hlen : l.length + s.size <= 140737488355328) : ACB e Tryz.prog 59 [.bx (pn 0) 0,.c (.string s)] [.bld T 5 l] .any [.bld T 5 (l ++ tx s)]:=
 zGY (cargs:=[.string s]) .any (fun _ _ => by simp [rel]) fun b v p w h => zES hT b l v p w h s hlen
theorem zGf {e : Ge} {T : TypeId} (l : List UInt8) (hlen : l.length <= maxLen) : ACB e Tryz.prog 63 [.bx (pn 0) 0] [.bld T 5 l] (.c (.string (bs l))) [.bld T 5 l]:=
 bld_acbW (cargs:=[]) (show l.toArray.size <= maxLen by simpa using hlen) fun b v p w h => string_bW b l v p w h
section
variable {X : Cx} {nn : Nat} {st : Vst nn} {o : Oper} {ops : Array Oper} {l : List Oper} {d : Option Tmp} {KK : Vst nn -> Prop} {Q : Vst nn -> Prop} {rd wr : Nat -> List Nat} {k : Nat}
theorem zFN {f : FuncId} {m : Nat} {vs az : List V} {tb tu : TypeId} {bl bl' : List UInt8} {r : V} (hg : o.guard = none) (hd : o.dst = d) (h : act1 X.P st.rs (ev st) o.op = .call f vs) (hv : vs = .bx m 0 :: az) (hr : st.rs m = some (.bld tb tu bl))
 (hc : ACB X.e X.P f (.bx (pn 0) 0 :: az) [.bld tb tu bl] r [.bld tb tu bl']) (haz : ∀ φ,renL φ az = az) (hrr : ∀ φ,renV φ r = r)
 (hK : AWo X ops l ((st.res m (.bld tb tu bl')).put d r) KK) : AWo X ops (o :: l) st KK:=by
 subst hv
 refine zGk [m] hg hd h hc (by simp) (by simp only [renL,renV,φin_one,haz]) (by simp [hr,renR]) ?_
 have e : ([Res.bld tb tu bl'].map (renR (φout [m]))) = [Res.bld tb tu bl']:=rfl
 rw [e,zDl,hrr]
 exact hK
theorem zD8 {f : FuncId} {m : Nat} {vs az : List V} {tb tu : TypeId} {bl bl' : List UInt8} {r : V} (hg : o.guard = none) (hd : o.dst = d) (h : act1 X.P st.rs (ev st) o.op = .call f vs) (hv : vs = .bx m 0 :: az) (hr : st.rs m = some (.bld tb tu bl))
 (hc : ACB X.e X.P f (.bx (pn 0) 0 :: az) [.bld tb tu bl] r [.bld tb tu bl']) (haz : ∀ φ,renL φ az = az) (hrr : ∀ φ,renV φ r = r) (hl : [m].all (fun n => (wr k).contains n) = true)
 (hK : absLexG X ops rd wr Q (k + 1) l ((st.res m (.bld tb tu bl')).put d r)) : absLexG X ops rd wr Q k (o :: l) st:=by
 subst hv
 refine g_callB [m] hg hd h hc (by simp) (by simp only [renL,renV,φin_one,haz]) (by simp [hr,renR]) rfl hl ?_
 have e : ([Res.bld tb tu bl'].map (renR (φout [m]))) = [Res.bld tb tu bl']:=rfl
 rw [e,zDl,hrr]
 exact hK
theorem res_res {m : Nat} {a b : Res} : (st.res m a).res m b = st.res m b:=by
 unfold Vst.res
 congr 1
 funext q
 unfold updR
 by_cases h : q = m <;> simp [h]
theorem s_bcall0 {f : FuncId} {m : Nat} {vs az : List V} {tb tu : TypeId} {bl' : List UInt8} {r : V} (hg : o.guard = none) (hd : o.dst = d) (h0 : act1 X.P st.rs (ev st) o.op = .call f vs) (hv : vs = .bx m 0 :: az) (hr : st.rs m = some (.box tb [.c (.pointer none),.c (.slice none 0 0)]))
 (hc : ACB X.e X.P f (.bx (pn 0) 0 :: az) [.bld tb tu []] r [.bld tb tu bl']) (h : act1 X.P (st.res m (.bld tb tu [])).rs (ev (st.res m (.bld tb tu []))) o.op = .call f vs) (haz : ∀ φ,renL φ az = az) (hrr : ∀ φ,renV φ r = r)
 (hK : AWo X ops l ((st.res m (.bld tb tu bl')).put d r) KK) : AWo X ops (o :: l) st KK:=by
 refine awo_sub (Sub.bld (e:=tu) hr) ?_
 refine zFN hg hd h hv (by simp [Vst.res,updR]) hc haz hrr ?_
 rw [res_res]
 exact hK
theorem s_bs {m : Nat} {vs : List V} {tb tu : TypeId} {bl : List UInt8} (hg : o.guard = none) (hd : o.dst = d) (h : act1 X.P st.rs (ev st) o.op = .call 63 vs) (hv : vs = [.bx m 0]) (hr : st.rs m = some (.bld tb tu bl)) (ht : tb = tb /\ tu = 5) (hP : X.P = Tryz.prog)
 (hK : AWo X ops l (st.put d (.c (.string (bs bl)))) KK) (hlen : bl.length <= maxLen) : AWo X ops (o :: l) st KK:=by
 obtain ⟨-,rfl⟩:=ht
 have hc:=zGf (e:=X.e) (T:=tb) bl hlen
 rw [<- hP] at hc
 refine zFN hg hd h hv hr hc (fun _ => rfl) (fun _ => rfl) ?_
 rw [res_same hr]
 exact hK
end
theorem arr_size (l : List UInt8) : (⟨l.toArray⟩ : ByteArray).size = l.length:=zAJ l
def opens : List D -> List UInt8
 | [] => []
 | d :: ds => if d.n == 1 then opens ds else opens ds ++ [91]
def closes : List D -> List UInt8
 | [] => []
 | d :: ds => if d.n == 1 then closes ds ++ [33] else closes ds ++ [93]
theorem zEm : ∀ l,[91] ++ opens l = opens l ++ [91]
 | [] => rfl
 | d :: ds => by
   have:=zEm ds
   unfold opens
   split
   . exact this
   . rw [<- List.append_assoc,this]
theorem refB_eq (n : List UInt8) : ∀ l,refB n l = opens l ++ n ++ closes l
 | [] => by simp [refB,opens,closes]
 | d :: ds => by
   unfold refB opens closes
   rw [refB_eq n ds]
   split
   . simp
   . rw [<- zEm]; simp
theorem zDY : ∀ l,(opens l).length <= l.length
 | [] => Nat.le_refl _
 | d :: ds => by
   have:=zDY ds
   unfold opens
   split <;> simp <;> omega
theorem zDA : ∀ l,(closes l).length = l.length
 | [] => rfl
 | d :: ds => by
   have:=zDA ds
   unfold closes
   split <;> simp <;> omega
def H150 (n : List UInt8) (l : List D) (j : Nat) : Vst 29:=
 stS 29 [(1,.bx 1 0),(3,.bx 3 0),(4,.bx 4 0),(5,.c (.int .i64 ((j : Int) - 1)))] [(1,.box 59 [.c (.string (bs n)),.sl 3 l]),(3,.bld 114 5 (opens (l.drop j))),(4,.bld 114 5 (closes (l.drop j)))]
theorem refP_ac (n : List UInt8) (l : List D) (hn : n.length <= 2000000) (hl : l.length <= 2000000) : AC EN Tryz.prog 169 [.agg [.c (.string (bs n)),.sl 3 l]] (.c (.string (bs (refB n l)))):=by
 have ho:=zDY
 have hc:=zDA
 refine zh 29 Tryz.func169 rfl rfl rfl rfl ?_
 intro s w he
 repeat' (first
|refine zB ?_
|refine zM ?_
|refine zk ?_
|refine zV ?_
|refine zd ?_
|apply aw_1
 conv => whnf
 refine ⟨?_,trivial⟩
|apply s_1
 conv => whnf; arg 1; arg 4; arg 3; whnf
 refine ⟨?_,?_⟩
|apply z7 rfl
 . conv => lhs; whnf
 . conv => lhs; whnf; arg 2; whnf
|apply zl rfl
 . conv => lhs; whnf
 . conv => lhs; whnf
 . first | fail
|apply zAV rfl rfl rfl rfl
 . conv => lhs; whnf; arg 1; whnf
 . rfl
|apply zr rfl rfl rfl rfl
 . conv => lhs; whnf; arg 1; whnf
 . rfl
|apply zw (by kernel_rfl) (by kernel_rfl)
|apply zAd
|apply zAc rfl
 . conv => lhs; whnf
 . conv => lhs; whnf; arg 2; whnf
|apply zAQ rfl
 . conv => lhs; whnf
 . conv => lhs; whnf
 . first | fail
|exact zX
|exact ze
|exact all_nil
|show List.all _ _ = true; rfl
|show zAB _ _ = true; rfl
|exact ([] : List Nat)
|exact (1000000 : Nat)
|apply zN
 . conv => lhs; whnf; arg 1; arg 1; whnf
|apply zO
 . conv => lhs; whnf; arg 1; arg 1; whnf
|refine zW (by conv => lhs; whnf) ?_ ?_ <;> intro hb
|refine zn ?_
|refine zb ?_
|refine zH ?_
|refine zL ?_
|refine zG ?_
|refine zD rfl ?_
|refine zF rfl ?_
|refine zE ?_
|refine zJ ?_
|refine zC ?_
|refine zK ?_
|refine z8 ?_
|refine zI ?_
|refine ⟨_,by conv => lhs; whnf; arg 2; whnf,?_⟩; conv => rhs; whnf
|exact trivial
|intro hg)
 . refine zAF ((Sub.bld (m:=3) (e:=5) rfl).trans (Sub.bld (m:=4) (e:=5) rfl)) ?_
   refine zAG (fun j st => j <= l.length /\ Sub (cx EN Tryz.prog s w he) st (H150 n l j)) l.length ⟨Nat.le_refl _,?_⟩ ?_
   . refine Sub.live ⟨rfl,rfl,rfl,rfl,trivial⟩ ⟨rfl,?_,?_,trivial⟩
     . rw [List.drop_length]; rfl
     . rw [List.drop_length]; rfl
   . rintro j st ⟨hj,hs⟩
     refine zAF hs ?_
     have h1:=ho (l.drop j)
     have h2:=hc (l.drop j)
     rw [List.length_drop] at h1 h2
     have hdrop : 0 < j -> l.drop (j - 1) = gD l (j - 1) :: l.drop j:=fun h => by
      have hlt : j - 1 < l.length:=by omega
      rw [List.drop_eq_getElem_cons hlt,show j - 1 + 1 = j by omega]
      congr 1
      unfold gD; rw [List.getD_eq_getElem?_getD,List.getElem?_eq_getElem hlt]; rfl
     have hnat : ((j : Int) - 1).toNat = j - 1:=by omega
     repeat' (first
|apply s_wb rfl
 . conv => lhs; whnf
 . conv => lhs; whnf
 . rfl
 . conv => lhs; whnf; arg 1; whnf
 . rfl
 . rfl
|apply y_bs rfl
 . conv => lhs; whnf
 . conv => lhs; whnf
 . rfl
 . conv => lhs; whnf; arg 1; whnf
 . rfl
|refine zB ?_
|refine zM ?_
|refine zk ?_
|refine zV ?_
|refine zd ?_
|apply aw_1
 conv => whnf
 refine ⟨?_,trivial⟩
|apply s_1
 conv => whnf; arg 1; arg 4; arg 3; whnf
 refine ⟨?_,?_⟩
|apply z7 rfl
 . conv => lhs; whnf
 . conv => lhs; whnf; arg 2; whnf
|apply zl rfl
 . conv => lhs; whnf
 . conv => lhs; whnf
 . first | fail
|apply zAV rfl rfl rfl rfl
 . conv => lhs; whnf; arg 1; whnf
 . rfl
|apply zr rfl rfl rfl rfl
 . conv => lhs; whnf; arg 1; whnf
 . rfl
|apply zw (by kernel_rfl) (by kernel_rfl)
|apply zAd
|apply zAc rfl
 . conv => lhs; whnf
 . conv => lhs; whnf; arg 2; whnf
|apply zAQ rfl
 . conv => lhs; whnf
 . conv => lhs; whnf
 . first | fail
|exact zX
|exact ze
|exact all_nil
|show List.all _ _ = true; rfl
|show zAB _ _ = true; rfl
|exact ([] : List Nat)
|exact (1000000 : Nat)
|apply zN
 . conv => lhs; whnf; arg 1; arg 1; whnf
|apply zO
 . conv => lhs; whnf; arg 1; arg 1; whnf
|refine zW (by conv => lhs; whnf) ?_ ?_ <;> intro hb
|refine zn ?_
|refine zb ?_
|refine zH ?_
|refine zL ?_
|refine zG ?_
|refine zD rfl ?_
|refine zF rfl ?_
|refine zE ?_
|refine zJ ?_
|refine zC ?_
|refine zK ?_
|refine z8 ?_
|refine zI ?_
|refine ⟨_,by conv => lhs; whnf; arg 2; whnf,?_⟩; conv => rhs; whnf
|exact trivial
|intro hg)
     . rename_i hb0
       have hj0 : 0 < j:=by simp at hb0; omega
       refine zY (j':=j - 1) (by omega) ⟨by omega,Sub.live ⟨rfl,rfl,rfl,?_,trivial⟩ ⟨rfl,?_,?_,trivial⟩⟩
       . show V.c (.int .i64 ((j : Int) - 1 - 1)) = _
         rw [show ((j - 1 : Nat) : Int) - 1 = (j : Int) - 1 - 1 by omega]
       . show some (Res.bld _ _ (opens (l.drop j))) = _
         rw [hdrop hj0,opens]
         rw [hnat] at hb
         rw [if_pos hb]
       . show some (Res.bld _ _ (closes (l.drop j) ++ [33])) = _
         rw [hdrop hj0,closes]
         rw [hnat] at hb
         rw [if_pos hb]
     . exact zAN (by omega)
     . omega
     . rename_i hb0
       have hj0 : 0 < j:=by simp at hb0; omega
       refine zY (j':=j - 1) (by omega) ⟨by omega,Sub.live ⟨rfl,rfl,rfl,?_,trivial⟩ ⟨rfl,?_,?_,trivial⟩⟩
       . show V.c (.int .i64 ((j : Int) - 1 - 1)) = _
         rw [show ((j - 1 : Nat) : Int) - 1 = (j : Int) - 1 - 1 by omega]
       . show some (Res.bld _ _ (opens (l.drop j) ++ [91])) = _
         rw [hdrop hj0,opens]
         rw [hnat] at hb
         rw [if_neg (by rw [hb]; simp)]
       . show some (Res.bld _ _ (closes (l.drop j) ++ [93])) = _
         rw [hdrop hj0,closes]
         rw [hnat] at hb
         rw [if_neg (by rw [hb]; simp)]
     . exact zAN (by omega)
     . omega
     . omega
     . simp at hb; omega
     . have hj0 : j = 0:=by simp at hb; omega
       subst hj0
       rw [List.drop_zero,refB_eq,<- zz,<- zz]
       rfl
     all_goals (simp only [ByteArray.size_append,zAJ,arr_size,maxLen]; omega)
 . exact zAN (by omega)
theorem zCR (l : List UInt8) : ∀ n,(Lib.repeatL l n).length = l.length * n
 | 0 => by simp [Lib.repeatL]
 | n + 1 => by rw [Lib.repeatL,List.length_append,zCR l n,Nat.mul_add]; omega
theorem repeat_ac (s : ByteArray) (c : Nat) (hc : c <= 1000000) (hs : s.size <= 1000) : AC EN Tryz.prog 194 [.c (.string s),.c (.int .i64 (c : Int))] (.c (.string (bs (Lib.repeatL (tx s) c)))):=
 zHO fun s1 w us hus he => by
  have hm : s.size * c <= 1000 * 1000000:=Nat.mul_le_mul hs hc
  refine ⟨bs_ok (by rw [zCR,zAj]; omega),?_⟩
  obtain ⟨u,u2,rfl,h,h2⟩:=zGn hus
  rw [rel] at h h2
  obtain ⟨rfl,-⟩:=h
  obtain ⟨rfl,-⟩:=h2
  exact Tryz.strings_Repeat s c w (by omega) (by omega)
theorem zGw : LiesB 203:=by unfold LiesB; kernel_rfl
def zBE (n : Nat) (t : List UInt8) : List UInt8:=Lib.repeatL [32,32] n ++ t ++ [10]
theorem zAq (n : Nat) (t : List UInt8) : (zBE n t).length = 2 * n + t.length + 1:=by
 simp only [zBE,List.length_append,zCR,List.length_cons,List.length_nil]
theorem zCT (l : List UInt8) (n : Nat) (t : ByteArray) (hn : n <= 1000000) (ht : t.size <= 1000000000) (hl : l.length <= 10000000000000) :
 ACB EN Tryz.prog 166 [.bx (pn 0) 0,.c (.int .i64 (n : Int)),.c (.string t)] [.bld 203 5 l] (.tup []) [.bld 203 5 (l ++ zBE n (tx t))]:=by
 have hr:=repeat_ac ⟨#[32,32]⟩ n hn (by decide)
 have e0 : bs (zBE n (tx t)) = bs (Lib.repeatL [32,32] n) ++ t ++ ⟨#[10]⟩:=by rw [zBE,<- zz,<- zz,zCM]; rfl
 have hw:=zDf (e:=EN) zGw l (bs (zBE n (tx t))) (by rw [zAJ,zAq,zAj]; omega)
 rw [zB9,e0] at hw
 refine zGa 15 Tryz.func166 rfl rfl ?_
 intro pas s w he hp
 have e : (Lib.repeatL (tx ⟨#[32,32]⟩) n).length = 2 * n:=zCR _ n
 repeat' (first
|apply zBC 9 ([]) ([(8,[1000000])]) rfl (by kernel_rfl) (by kernel_rfl) (by kernel_rfl)
|apply zFa
|apply zFZ rfl
 . conv => lhs; whnf
 . conv => lhs; whnf; arg 2; whnf
|apply zC8 rfl
 . conv => lhs; whnf
 . conv => lhs; whnf
 . first | exact hr
|apply zFb rfl rfl
 . conv => lhs; whnf
 . first | (conv => lhs; whnf; arg 1; whnf)
 . first | exact fun _ => rfl | (intro _; kernel_rfl)
 . conv => lhs; whnf
 . rfl
 . conv => lhs; whnf; arg 1; whnf
 . conv => lhs; whnf
|apply zB3 rfl rfl rfl
 . conv => lhs; whnf
 . rfl
 . conv => lhs; whnf; arg 1; whnf
 . conv => lhs; whnf; arg 1; whnf
 . exact ⟨by kernel_rfl,by kernel_rfl⟩
 . rfl
|apply zD8 rfl
 . conv => lhs; whnf
 . conv => lhs; whnf
 . rfl
 . conv => lhs; whnf; arg 1; whnf
 . first | exact hw
 . exact fun _ => rfl
 . exact fun _ => rfl
 . rfl
|show inO _ _ = true; rfl
|refine zB ?_
|refine zM ?_
|refine zk ?_
|refine zV ?_
|refine zd ?_
|apply aw_1
 conv => whnf
 refine ⟨?_,trivial⟩
|apply s_1
 conv => whnf; arg 1; arg 4; arg 3; whnf
 refine ⟨?_,?_⟩
|apply z7 rfl
 . conv => lhs; whnf
 . conv => lhs; whnf; arg 2; whnf
|apply zl rfl
 . conv => lhs; whnf
 . conv => lhs; whnf
 . first | exact hr
|apply zw (by kernel_rfl) (by kernel_rfl)
|apply zAd
|apply zAc rfl
 . conv => lhs; whnf
 . conv => lhs; whnf; arg 2; whnf
|apply zAQ rfl
 . conv => lhs; whnf
 . conv => lhs; whnf
 . first | exact hr
|exact zX
|exact ze
|exact all_nil
|show List.all _ _ = true; rfl
|show zAB _ _ = true; rfl
|exact ([] : List Nat)
|exact (1000000 : Nat)
|apply zN
 . conv => lhs; whnf; arg 1; arg 1; whnf
|apply zO
 . conv => lhs; whnf; arg 1; arg 1; whnf
|refine zW (by conv => lhs; whnf) ?_ ?_ <;> intro hb
|refine zn ?_
|refine zb ?_
|refine zH ?_
|refine zL ?_
|refine zG ?_
|refine zD rfl ?_
|refine zF rfl ?_
|refine zE ?_
|refine zJ ?_
|refine zC ?_
|refine zK ?_
|refine zHn ⟨?_,?_⟩
|refine zCV ⟨?_,?_⟩
|exact (rfl : _ = V.tup [])
|refine ⟨_,by conv => lhs; whnf; arg 2; whnf,?_⟩; conv => rhs; whnf
|exact trivial
|intro hg)
 . exact ⟨rfl,trivial⟩
 . rw [ByteArray.size_append,zAJ,e]
   show 2 * n + t.size + 1 <= maxLen
   unfold maxLen; omega
 . rw [zAJ,e]
   unfold maxLen; omega
end Go.Proofs.YtdlnnlglmifceaaGreatDoor
namespace Go.Proofs.YtdlnnlglmifceaaGreatDoor
def zD7 (K : Nat) (s : D) : List UInt8:=
 if (s.f 0).n = 2 then [46,46,46] ++ tx (s.f 2).s ++ zCe K (s.f 5).l
 else if (s.f 0).n = 3 then [46,46,46] ++ (if tx (s.f 3).s = [] then [] else [32,111,110,32] ++ tx (s.f 3).s) ++ zCe K (s.f 5).l
 else (if tx (s.f 1).s = [] then [] else tx (s.f 1).s ++ [58,32]) ++ (tx (s.f 2).s ++ parT K (s.f 4).l ++ zCe K (s.f 5).l)
def zCF (s : D) : Bool:=(s.f 0).n == 3 || ((s.f 0).n != 2 && (s.f 6).l.length != 0)
def selT (K : Nat) (inner : List D -> List UInt8) (n : Nat) (s : D) : List UInt8:=
 if zCF s = true then zBE n (zD7 K s ++ [32,123]) ++ inner (s.f 6).l ++ zBE n [125] else zBE n (zD7 K s)
def selsT (K : Nat) : Nat -> Nat -> List D -> List UInt8
 | 0,_,_ => []
 | f + 1,n,l => (l.map (selT K (selsT K f (n + 1)) n)).flatten
structure SelOk (K : Nat) (inner : List D -> Prop) (s : D) : Prop where
 args : ArgsOk K (s.f 4).l
 dirs : DirsOk K (s.f 5).l
 kind : (s.f 0).n = 1 \/ ((s.f 0).n = 2 /\ (s.f 6).l = []) \/ ((s.f 0).n = 3 /\ (s.f 6).l ≠ [])
 sub : inner (s.f 6).l
def SelsOk (K : Nat) : Nat -> List D -> Prop
 | 0,l => l = []
 | f + 1,l => ∀ i,i < l.length -> SelOk K (SelsOk K f) (gD l i)
theorem zGN (K : Nat) (s : D) (h : wideD s) : (zD7 K s).length + 60 * (wD (s.f 6)) <= 60 * wD s + 20:=by
 have hf:=zAv s 7
 simp only [sumN] at hf
 have h1:=zAn (s.f 1)
 have h2:=zAn (s.f 2)
 have h3:=zAn (s.f 3)
 have h4:=zAP (s.f 4)
 have h5:=zAP (s.f 5)
 have t1:=zAj (s.f 1).s
 have t2:=zAj (s.f 2).s
 have t3:=zAj (s.f 3).s
 have p:=zFQ K (s.f 4).l fun i => (h.f 4).l i
 have q:=zFu K (s.f 5).l fun i => (h.f 5).l i
 unfold zD7
 split
 . simp only [List.length_append,List.length_cons,List.length_nil]; omega
 split
 . split <;> simp only [List.length_append,List.length_cons,List.length_nil] <;> omega
 . split <;> simp only [List.length_append,List.length_cons,List.length_nil] <;> omega
theorem flat_le (l : List D) (f : D -> List UInt8) (c : Nat) (h : ∀ i,i < l.length -> (f (gD l i)).length <= c * bulkD (gD l i)) : (l.map f).flatten.length <= c * bulkL l:=by
 induction l with
 | nil => simp
 | cons x r ih =>
   have h0:=h 0 (by simp)
   have h1:=ih fun i hi => h (i + 1) (by simpa using hi)
   simp only [List.map_cons,List.flatten_cons,List.length_append,bulkL,Nat.mul_add]
   have e : gD (x :: r) 0 = x:=rfl
   rw [e] at h0
   omega
theorem zDx (K : Nat) : ∀ (f n : Nat) (l : List D),(∀ i,wideD (gD l i)) -> (selsT K f n l).length <= (4 * (n + f) + 70) * bulkL l
 | 0,_,_,_ => by simp [selsT]
 | f + 1,n,l,hw => by
   unfold selsT
   refine flat_le l _ _ fun i hi => ?_
   have h:=hw i
   have hh:=zGN K (gD l i) h
   have hb:=zv (gD l i)
   have h6:=zAP ((gD l i).f 6)
   have hs:=zDx K f (n + 1) ((gD l i).f 6).l fun j => (h.f 6).l j
   have hf6:=wD_f (gD l i) 6
   rw [show n + 1 + f = n + (f + 1) by omega] at hs
   generalize hc : 4 * (n + (f + 1)) + 70 = c at hs |-
   have hc60 : 60 <= c:=by omega
   have e1 : c * bulkL ((gD l i).f 6).l <= c * wD ((gD l i).f 6):=Nat.mul_le_mul_left c h6
   obtain ⟨q,hq⟩:=Nat.exists_eq_add_of_le hf6
   have e2 : c * bulkD (gD l i) = c * wD ((gD l i).f 6) + c * q + c:=by rw [hb,hq,Nat.mul_add,Nat.mul_add,Nat.mul_one]
   have e3 : 60 * q <= c * q:=Nat.mul_le_mul_right q hc60
   unfold selT
   split
   . simp only [List.length_append,zAq,List.length_cons,List.length_nil]; omega
   . simp only [zAq]; omega
theorem selsT_take {K f n : Nat} {l : List D} {i : Nat} (h : i < l.length) : ((l.take (i + 1)).map (selT K (selsT K f (n + 1)) n)).flatten = ((l.take i).map (selT K (selsT K f (n + 1)) n)).flatten ++ selT K (selsT K f (n + 1)) n (gD l i):=by
 rw [List.take_succ_eq_append_getElem h,List.map_append,List.flatten_append,zBd h]
 simp
theorem zCj {K f n : Nat} {l : List D} (i : Nat) : ((l.take i).map (selT K (selsT K f (n + 1)) n)).flatten.length <= (selsT K (f + 1) n l).length:=by
 unfold selsT
 conv => rhs; rw [<- List.take_append_drop i l,List.map_append,List.flatten_append,List.length_append]
 omega
structure J (e : Tok) (r : List Tok) (a : List Tok) (x x' : PS) : Prop where
 l : x.ts = a ++ [e]
 r : x'.ts = a ++ r
 vr : x'.vr = x.vr
 nd : x'.nd = x.nd
def LO (e : Tok) (r : List Tok) {α : Type} (a : List Tok) (p p' : PR α) : Prop:=
 ∀ v y,p = .ok (v,y) -> ∃ b,(∃ d,a = d ++ b) /\ y.ts = b ++ [e] /\ (b ≠ [] -> ∃ y',p' = .ok (v,y') /\ J e r b y y')
def LS (e : Tok) (r : List Tok) {α : Type} (a : List Tok) (p p' : PR α) : Prop:=
 ∀ v y,p = .ok (v,y) -> ∃ b y',(∃ t d,a = t :: d ++ b) /\ p' = .ok (v,y') /\ J e r b y y'
structure Ends (e : Tok) (r : List Tok) : Prop where
 k : e.k = 5
 r : r ≠ []
section
variable {e : Tok} {r : List Tok} {α β : Type}
theorem LS.lo {a : List Tok} {p p' : PR α} (h : LS e r a p p') : LO e r a p p':=fun v y hp => by
 obtain ⟨b,y',⟨t,d,hd⟩,h1,h2⟩:=h v y hp
 exact ⟨b,⟨t :: d,hd⟩,h2.l,fun _ => ⟨y',h1,h2⟩⟩
theorem LO.zero {p p' p'' : PR α} (h : LO e r [] p p') : LO e r [] p p'':=fun v y hp => by
 obtain ⟨b,⟨d,hd⟩,h1,h2⟩:=h v y hp
 have : b = []:=(List.append_eq_nil_iff.1 hd.symm).2
 subst this
 exact ⟨[],⟨[],rfl⟩,h1,fun h => (h rfl).elim⟩
theorem LS.zero {p p' p'' : PR α} (h : LS e r [] p p') : LS e r [] p p'':=fun v y hp => by
 obtain ⟨b,y',⟨t,d,hd⟩,-⟩:=h v y hp
 cases hd
theorem LO.err {a : List Tok} {q : Nat × Int} {p' : PR α} : LO e r a (.error q) p':=fun _ _ h => by cases h
theorem LS.err {a : List Tok} {q : Nat × Int} {p' : PR α} : LS e r a (.error q) p':=fun _ _ h => by cases h
theorem LO.okk {a : List Tok} {x x' : PS} (h : J e r a x x') (v : α) : LO e r a (.ok (v,x)) (.ok (v,x')):=fun w y hp => by
 cases hp
 exact ⟨a,⟨[],rfl⟩,h.l,fun _ => ⟨x',rfl,h⟩⟩
theorem LO.mono {a b : List Tok} {p p' : PR α} (h : LO e r b p p') (hab : ∃ d,a = d ++ b) : LO e r a p p':=fun v y hp => by
 obtain ⟨c,⟨d,hd⟩,h1⟩:=h v y hp
 obtain ⟨d2,hd2⟩:=hab
 exact ⟨c,⟨d2 ++ d,by rw [hd2,hd,List.append_assoc]⟩,h1⟩
theorem LS.mono {a b : List Tok} {p p' : PR α} (h : LS e r b p p') (hab : ∃ d,a = d ++ b) : LS e r a p p':=fun v y hp => by
 obtain ⟨c,y',⟨t,d,hd⟩,h1⟩:=h v y hp
 obtain ⟨d2,hd2⟩:=hab
 cases d2 with
 | nil => exact ⟨c,y',⟨t,d,by rw [hd2,hd]; rfl⟩,h1⟩
 | cons t2 d2 => exact ⟨c,y',⟨t2,d2 ++ t :: d,by rw [hd2,hd]; simp⟩,h1⟩
theorem LS.okn {t : Tok} {a : List Tok} {x x' : PS} (h : J e r a x x') (v : α) : LS e r (t :: a) (.ok (v,x)) (.ok (v,x')):=fun w y hp => by
 cases hp
 exact ⟨a,x',⟨t,[],rfl⟩,rfl,h⟩
theorem LO.ite {a : List Tok} {c c' : Prop} [Decidable c] [Decidable c'] {A A' B B' : PR α} (hc : a ≠ [] -> (c ↔ c')) (h1 : c -> LO e r a A A') (h2 : ¬ c -> LO e r a B B') : LO e r a (if c then A else B) (if c' then A' else B'):=by
 by_cases ha : a = []
 . subst ha
   by_cases h : c
   . rw [if_pos h]; exact (h1 h).zero
   . rw [if_neg h]; exact (h2 h).zero
 . by_cases h : c
   . rw [if_pos h,if_pos ((hc ha).1 h)]; exact h1 h
   . rw [if_neg h,if_neg fun h' => h ((hc ha).2 h')]; exact h2 h
theorem LS.ite {a : List Tok} {c c' : Prop} [Decidable c] [Decidable c'] {A A' B B' : PR α} (hc : a ≠ [] -> (c ↔ c')) (h1 : c -> LS e r a A A') (h2 : ¬ c -> LS e r a B B') : LS e r a (if c then A else B) (if c' then A' else B'):=by
 by_cases ha : a = []
 . subst ha
   by_cases h : c
   . rw [if_pos h]; exact (h1 h).zero
   . rw [if_neg h]; exact (h2 h).zero
 . by_cases h : c
   . rw [if_pos h,if_pos ((hc ha).1 h)]; exact h1 h
   . rw [if_neg h,if_neg fun h' => h ((hc ha).2 h')]; exact h2 h
theorem LO.then {a : List Tok} {p p' : PR α} {f f' : α -> PS -> PR β} (h : LO e r a p p') (hf : ∀ v b y y',J e r b y y' -> LO e r b (f v y) (f' v y')) : LO e r a (zAh p f) (zAh p' f'):=fun w z hp => by
 cases hpp : p with
 | error q => rw [hpp] at hp; cases hp
 | ok q =>
   obtain ⟨v,y⟩:=q
   obtain ⟨b,hab,h1,h2⟩:=h v y hpp
   rw [hpp] at hp
   have hp : f v y = .ok (w,z):=hp
   by_cases hb : b = []
   . subst hb
     obtain ⟨c,⟨d,hd⟩,h3,-⟩:=hf v [] y ⟨r,y.vr,y.nd⟩ ⟨h1,rfl,rfl,rfl⟩ w z hp
     have : c = []:=(List.append_eq_nil_iff.1 hd.symm).2
     subst this
     exact ⟨[],hab,h3,fun h => (h rfl).elim⟩
   . obtain ⟨y',h3,h4⟩:=h2 hb
     rw [h3]
     exact ((hf v b y y' h4).mono hab) w z hp
theorem LS.then {a : List Tok} {p p' : PR α} {f f' : α -> PS -> PR β} (h : LO e r a p p') (hf : ∀ v b y y',J e r b y y' -> LS e r b (f v y) (f' v y')) : LS e r a (zAh p f) (zAh p' f'):=fun w z hp => by
 cases hpp : p with
 | error q => rw [hpp] at hp; cases hp
 | ok q =>
   obtain ⟨v,y⟩:=q
   obtain ⟨b,hab,h1,h2⟩:=h v y hpp
   rw [hpp] at hp
   have hp : f v y = .ok (w,z):=hp
   by_cases hb : b = []
   . subst hb
     obtain ⟨c,y',⟨t,d,hd⟩,-⟩:=hf v [] y ⟨r,y.vr,y.nd⟩ ⟨h1,rfl,rfl,rfl⟩ w z hp
     cases hd
   . obtain ⟨y',h3,h4⟩:=h2 hb
     rw [h3]
     exact ((hf v b y y' h4).mono hab) w z hp
theorem LS.pure {a : List Tok} {p p' : PR α} {f f' : α -> PS -> PR β} (h : LS e r a p p') (hf : ∀ v b y y',J e r b y y' -> ∃ w z z',f v y = .ok (w,z) /\ f' v y' = .ok (w,z') /\ J e r b z z') : LS e r a (zAh p f) (zAh p' f'):=fun w z hp => by
 cases hpp : p with
 | error q => rw [hpp] at hp; cases hp
 | ok q =>
   obtain ⟨v,y⟩:=q
   obtain ⟨b,y',hab,h1,h2⟩:=h v y hpp
   rw [hpp] at hp
   have hp : f v y = .ok (w,z):=hp
   obtain ⟨w2,z2,z',h3,h4,h5⟩:=hf v b y y' h2
   rw [hp] at h3
   cases h3
   rw [h1]
   exact ⟨b,z',hab,h4,h5⟩
variable (hE : Ends e r)
theorem J.hd {a : List Tok} {x x' : PS} (h : J e r a x x') (ha : a ≠ []) : hdT x' = hdT x:=by
 cases a with
 | nil => exact (ha rfl).elim
 | cons t a => unfold hdT; rw [h.l,h.r]; rfl
theorem J.sg {a : List Tok} {x x' : PS} (h : J e r a x x') (s : List UInt8) (ha : a ≠ []) : isS x s = true ↔ isS x' s = true:=by
 unfold isS; rw [h.hd ha]
include hE
theorem J.k5 {x x' : PS} (h : J e r [] x x') : (hdT x).k = 5:=by unfold hdT; rw [h.l]; exact hE.k
theorem J.ne_of_k {a : List Tok} {x x' : PS} (h : J e r a x x') (hk : (hdT x).k ≠ 5) : ∃ t a',a = t :: a' /\ J e r a' (nxT x) (nxT x'):=by
 cases a with
 | nil => exact (hk (h.k5 hE)).elim
 | cons t a =>
   have h1:=h.hd (by simp)
   refine ⟨t,a,rfl,?_⟩
   unfold nxT
   rw [h1,if_neg hk,if_neg hk]
   exact ⟨by show x.ts.drop 1 = _; rw [h.l]; rfl,by show x'.ts.drop 1 = _; rw [h.r]; rfl,h.vr,h.nd⟩
theorem J.ne_of_isS {a : List Tok} {x x' : PS} (h : J e r a x x') {s : List UInt8} (hs : isS x s = true) : ∃ t a',a = t :: a' /\ J e r a' (nxT x) (nxT x'):=by
 refine h.ne_of_k hE ?_
 unfold isS at hs
 simp only [Bool.and_eq_true,beq_iff_eq] at hs
 rw [hs.1]; decide
theorem J.len {a : List Tok} {x x' : PS} (h : J e r a x x') : x.ts.length <= x'.ts.length:=by
 rw [h.l,h.r,List.length_append,List.length_append]
 have : 0 < r.length:=List.length_pos_iff.2 hE.r
 simp; omega
theorem zCA {a : List Tok} {x x' : PS} (h : J e r a x x') (s : List UInt8) : LS e r a (zDG s x) (zDG s x'):=by
 unfold zDG
 refine .ite (h.sg s) (fun hs => ?_) fun _ => .err
 obtain ⟨t,a',rfl,h'⟩:=h.ne_of_isS hE hs
 exact .okn h' _
theorem zBN {a : List Tok} {x x' : PS} (h : J e r a x x') : LS e r a (zBh x) (zBh x'):=by
 unfold zBh
 refine .ite (fun ha => by rw [h.hd ha]) (fun hk => ?_) fun _ => .err
 obtain ⟨t,a',rfl,h'⟩:=h.ne_of_k hE (by rw [hk]; decide)
 rw [h.hd (by simp)]
 exact .okn h' _
theorem open_j : ∀ (f g : Nat) {a : List Tok} {x x' : PS},J e r a x x' -> x.ts.length <= f -> x'.ts.length <= g -> ∃ b,(∃ d,a = d ++ b) /\ (zBa f x).2.ts = b ++ [e] /\ (b ≠ [] -> (zBa g x').1 = (zBa f x).1 /\ J e r b (zBa f x).2 (zBa g x').2)
 | 0,g,a,x,x',h,hf,_ => by rw [h.l] at hf; simp at hf
 | f + 1,0,a,x,x',h,_,hg => by have:=h.len hE; rw [h.l] at this; simp at this; omega
 | f + 1,g + 1,a,x,x',h,hf,hg => by
   by_cases hs : isS x [91] = true
   . obtain ⟨t,a',rfl,h'⟩:=h.ne_of_isS hE hs
     have hs':=(h.sg [91] (by simp)).1 hs
     have e1 : zBa (f + 1) x = ((zBa f (nxT x)).1 + 1,(zBa f (nxT x)).2):=by rw [zBa,if_pos hs]
     have e2 : zBa (g + 1) x' = ((zBa g (nxT x')).1 + 1,(zBa g (nxT x')).2):=by rw [zBa,if_pos hs']
     rw [e1,e2]
     obtain ⟨b,⟨d,hd⟩,h1,h2⟩:=open_j f g h' (by rw [h'.l]; rw [h.l] at hf; simpa using hf) (by rw [h'.r]; rw [h.r] at hg; simpa using hg)
     exact ⟨b,⟨t :: d,by rw [hd]; rfl⟩,h1,fun hb => ⟨by rw [(h2 hb).1],(h2 hb).2⟩⟩
   . have e1 : zBa (f + 1) x = (0,x):=by rw [zBa,if_neg hs]
     rw [e1]
     refine ⟨a,⟨[],rfl⟩,h.l,fun ha => ?_⟩
     have e2 : zBa (g + 1) x' = (0,x'):=by rw [zBa,if_neg fun hq => hs ((h.sg [91] ha).2 hq)]
     rw [e2]
     exact ⟨rfl,h⟩
theorem zFi : ∀ (n : Nat) (w : List Int) {a : List Tok} {x x' : PS},J e r a x x' -> LO e r a (closeQ n w x) (closeQ n w x')
 | 0,w,a,x,x',h => by
   have e1 : ∀ x,closeQ 0 w x = if isS x [33] = true then .ok (1 :: w,nxT x) else .ok (w,x):=fun x => by unfold closeQ; split <;> rfl
   rw [e1,e1]
   refine .ite (h.sg _) (fun hs => ?_) fun _ => .okk h _
   obtain ⟨t,a',rfl,h'⟩:=h.ne_of_isS hE hs
   exact (LS.okn h' _).lo
 | n + 1,w,a,x,x',h => by
   have e1 : ∀ x,closeQ (n + 1) w x = if isS x [33] = true then zAh (zDG [93] (nxT x)) fun _ y => closeQ n (2 :: 1 :: w) y else zAh (zDG [93] x) fun _ y => closeQ n (2 :: w) y:=fun x => by
    rw [closeQ]; split <;> rfl
   rw [e1,e1]
   refine .ite (h.sg _) (fun hs => ?_) fun _ => .then (zCA hE h _).lo fun _ _ _ _ hy => zFi n _ hy
   obtain ⟨t,a',rfl,h'⟩:=h.ne_of_isS hE hs
   exact (LO.then (zCA hE h' _).lo fun _ _ _ _ hy => zFi n _ hy).mono ⟨[t],rfl⟩
theorem inner_lo {a : List Tok} {x x' : PS} (h : J e r a x x') : LO e r a (zHp x) (zHp x'):=by
 obtain ⟨b,hab,h1,h2⟩:=open_j hE x.ts.length x'.ts.length h (Nat.le_refl _) (Nat.le_refl _)
 unfold zHp
 by_cases hb : b = []
 . subst hb
   intro v y hp
   have hk : zBh (zBa x.ts.length x).2 = .error ((hdT (zBa x.ts.length x).2).i,3):=by
    unfold zBh
    rw [if_neg]
    unfold hdT
    rw [h1]
    show ¬ e.k = 2
    rw [hE.k]; decide
   rw [hk] at hp
   cases hp
 . obtain ⟨h3,h4⟩:=h2 hb
   rw [h3]
   refine LO.mono (b:=b) ?_ hab
   exact .then (zBN hE h4).lo fun _ _ _ _ hy => .then (zFi hE _ _ hy) fun _ _ _ _ hz => .okk hz _
theorem typ_lo {a : List Tok} {x x' : PS} (h : J e r a x x') : LO e r a (typQ x) (typQ x'):=
 .then (inner_lo hE h) fun _ _ _ _ hy => .ite (fun _ => Iff.rfl) (fun _ => .err) fun _ => .okk hy _
theorem zHo {v v' : PS -> PR D} (hv : ∀ {a : List Tok} {x x' : PS},J e r a x x' -> LO e r a (v x) (v' x')) : ∀ (f g : Nat) (acc : List D) {a : List Tok} {x x' : PS},f <= g -> J e r a x x' -> LS e r a (zGK v f acc x) (zGK v' g acc x')
 | 0,_,_,_,_,_,_,_ => .err
 | f + 1,0,_,_,_,_,hfg,_ => by omega
 | f + 1,g + 1,acc,a,x,x',hfg,h => by
   unfold zGK
   refine .ite (h.sg _) (fun hs => ?_) fun _ => .then (hv h) fun _ _ _ _ hy => zHo hv f g _ (by omega) hy
   obtain ⟨t,a',rfl,h'⟩:=h.ne_of_isS hE hs
   exact .okn h' _
theorem zGQ {v v' : PS -> PR D} (hv : ∀ {a : List Tok} {x x' : PS},J e r a x x' -> LO e r a (v x) (v' x')) : ∀ (f g : Nat) (ks : List (List UInt8)) (acc : List D) {a : List Tok} {x x' : PS},f <= g -> J e r a x x' -> LS e r a (zED v f ks acc x) (zED v' g ks acc x')
 | 0,_,_,_,_,_,_,_,_ => .err
 | f + 1,0,_,_,_,_,_,hfg,_ => by omega
 | f + 1,g + 1,ks,acc,a,x,x',hfg,h => by
   unfold zED
   refine .ite (h.sg _) (fun hs => ?_) fun _ => .then (zBN hE h).lo fun k _ _ _ hy => .ite (fun _ => Iff.rfl) (fun _ => .err) fun _ => .then (zCA hE hy _).lo fun _ _ _ _ hz => .then (hv hz) fun _ _ _ _ hu => zGQ hv f g _ _ (by omega) hu
   obtain ⟨t,a',rfl,h'⟩:=h.ne_of_isS hE hs
   exact .okn h' _
theorem zDj : ∀ (f lv : Nat) {a : List Tok} {x x' : PS},J e r a x x' -> LO e r a (zCv f lv x) (zCv f lv x')
 | 0,_,_,_,_,_ => .err
 | f + 1,lv,a,x,x',h => by
   by_cases ha : a = []
   . intro v y hp
     subst ha
     have hk:=h.k5 hE
     unfold zCv at hp
     rw [if_pos (by unfold noVal; rw [hk]; rfl)] at hp
     cases hp
   . have hh:=h.hd ha
     have hn : noVal x' = noVal x:=by unfold noVal isS; rw [hh,h.vr]
     unfold zCv
     rw [hn,hh,h.nd]
     refine .ite (fun _ => Iff.rfl) (fun _ => .err) fun hno => ?_
     obtain ⟨t,a',rfl,h'⟩:=h.ne_of_k hE (fun hk => hno (by unfold noVal; rw [hk]; rfl))
     have hy : J e r a' { nxT x with nd:=x.nd + 1 } { nxT x' with nd:=x.nd + 1 }:=⟨h'.l,h'.r,h'.vr,rfl⟩
     have hlen : (nxT x).ts.length <= (nxT x').ts.length:=h'.len hE
     refine .ite (fun _ => Iff.rfl) (fun _ => .err) fun _ => .ite (fun _ => Iff.rfl) (fun _ => .err) fun _ => ?_
     dsimp only
     refine LO.mono (b:=a') ?_ ⟨[t],rfl⟩
     refine .ite (fun _ => Iff.rfl) (fun _ => .okk hy _) fun _ => .ite (fun _ => Iff.rfl) (fun _ => .okk hy _) fun _ => .ite (fun _ => Iff.rfl) (fun _ => .okk hy _) fun _ => .ite (fun _ => Iff.rfl) (fun _ => .then (zBN hE hy).lo fun _ _ _ _ hz => .okk hz _) fun _ => .ite (fun _ => Iff.rfl) (fun _ => ?_) fun _ => ?_
     . exact .then (zHo hE (fun h => zDj f (lv + 1) h) _ _ _ (by omega) hy).lo fun _ _ _ _ hz => .okk hz _
     . exact .then (zGQ hE (fun h => zDj f (lv + 1) h) _ _ _ _ (by omega) hy).lo fun _ _ _ _ hz => .okk hz _
theorem zFA {a : List Tok} {x x' : PS} (h : J e r a x x') : LO e r a (zEb x) (zEb x'):=zDj hE _ _ ⟨h.l,h.r,h.vr,rfl⟩
theorem zII : ∀ (f g : Nat) (acc : List D) {a : List Tok} {x x' : PS},f <= g -> J e r a x x' -> LS e r a (argsF f acc x) (argsF g acc x')
 | 0,_,_,_,_,_,_,_ => .err
 | f + 1,0,_,_,_,_,hfg,_ => by omega
 | f + 1,g + 1,acc,a,x,x',hfg,h => by
   unfold argsF
   refine .ite (fun ha => by rw [h.sg _ ha]) (fun hs => ?_) fun _ => .ite (fun ha => by rw [h.hd ha]) (fun _ => .err) fun _ => .then (zBN hE h).lo fun _ _ _ _ hy => .then (zCA hE hy _).lo fun _ _ _ _ hz => .then (zFA hE hz) fun _ _ _ _ hu => zII f g _ (by omega) hu
   obtain ⟨t,a',rfl,h'⟩:=h.ne_of_isS hE hs.2
   exact .okn h' _
theorem zHH {a : List Tok} {x x' : PS} (h : J e r a x x') : LO e r a (zHK x) (zHK x'):=by
 unfold zHK
 refine .ite (h.sg _) (fun hs => ?_) fun _ => .okk h _
 obtain ⟨t,a',rfl,h'⟩:=h.ne_of_isS hE hs
 exact (zII hE _ _ _ (h.len hE) h').lo.mono ⟨[t],rfl⟩
theorem zH7 : ∀ (f g : Nat) (acc : List D) {a : List Tok} {x x' : PS},f <= g -> J e r a x x' -> LO e r a (dirsF f acc x) (dirsF g acc x')
 | 0,_,_,_,_,_,_,_ => .err
 | f + 1,0,_,_,_,_,hfg,_ => by omega
 | f + 1,g + 1,acc,a,x,x',hfg,h => by
   unfold dirsF
   refine .ite (h.sg _) (fun hs => ?_) fun _ => .okk h _
   obtain ⟨t,a',rfl,h'⟩:=h.ne_of_isS hE hs
   exact LO.mono (b:=a') (.ite (fun _ => Iff.rfl) (fun _ => .err) fun _ => .then (zBN hE h').lo fun _ _ _ _ hy => .then (zHH hE hy) fun _ _ _ _ hz => zH7 f g _ (by omega) hz) ⟨[t],rfl⟩
theorem zFf {a : List Tok} {x x' : PS} (h : J e r a x x') : LO e r a (zHA x) (zHA x'):=zH7 hE _ _ _ (by have:=h.len hE; omega) h
theorem sel_lo {v v' : PS -> PR (List D)} (hv : ∀ {a : List Tok} {x x' : PS},J e r a x x' -> LO e r a (v x) (v' x')) {a : List Tok} {x x' : PS} (h : J e r a x x') : LO e r a (selQ v x) (selQ v' x'):=by
 unfold selQ
 refine .ite (h.sg _) (fun hs => ?_) fun _ => ?_
 . obtain ⟨t,a',rfl,h'⟩:=h.ne_of_isS hE hs
   refine LO.mono (b:=a') ?_ ⟨[t],rfl⟩
   dsimp only
   refine .ite (fun ha => by rw [h'.hd ha]) (fun hk => ?_) fun _ => ?_
   . obtain ⟨t2,a2,rfl,h2⟩:=h'.ne_of_k hE (by rw [hk.1]; decide)
     rw [h'.hd (by simp)]
     exact LO.mono (b:=a2) (.then (zFf hE h2) fun _ _ _ _ hz => .okk hz _) ⟨[t2],rfl⟩
   . refine .then (.ite (fun ha => by rw [h'.hd ha]) (fun hk => ?_) fun _ => .okk h' _) fun _ _ _ _ hz => .then (zFf hE hz) fun _ _ _ _ hu => .then (hv hu) fun _ _ _ _ ho => .okk ho _
     obtain ⟨t2,a2,rfl,h2⟩:=h'.ne_of_k hE (by rw [hk]; decide)
     exact (zBN hE h2).lo.mono ⟨[t2],rfl⟩
 . refine .then (zBN hE h).lo fun n _ y y' hy => .then (.ite (hy.sg _) (fun hs => ?_) fun _ => .okk hy _) fun _ _ _ _ hz => .then (zHH hE hz) fun _ _ _ _ hu => .then (zFf hE hu) fun _ _ _ _ hw => .then (.ite (hw.sg _) (fun _ => hv hw) fun _ => .okk hw _) fun _ _ _ _ ho => .okk ho _
   obtain ⟨t2,a2,rfl,h2⟩:=hy.ne_of_isS hE hs
   exact LO.mono (b:=a2) (.then (zBN hE h2).lo fun _ _ _ _ hz => .okk hz _) ⟨[t2],rfl⟩
theorem setF_ls {v v' : PS -> PR D} (hv : ∀ {a : List Tok} {x x' : PS},J e r a x x' -> LO e r a (v x) (v' x')) : ∀ (f g : Nat) (acc : List D) {a : List Tok} {x x' : PS},f <= g -> J e r a x x' -> LS e r a (setF v f acc x) (setF v' g acc x')
 | 0,_,_,_,_,_,_,_ => .err
 | f + 1,0,_,_,_,_,hfg,_ => by omega
 | f + 1,g + 1,acc,a,x,x',hfg,h => by
   unfold setF
   refine .ite (fun ha => by rw [h.sg _ ha]) (fun hs => ?_) fun _ => .ite (fun ha => by rw [h.hd ha,h.sg _ ha]) (fun _ => .err) fun _ => .then (hv h) fun _ _ _ _ hy => setF_ls hv f g _ (by omega) hy
   obtain ⟨t,a',rfl,h'⟩:=h.ne_of_isS hE hs.2
   exact .okn h' _
theorem zFL : ∀ (f lv : Nat) {a : List Tok} {x x' : PS},J e r a x x' -> LS e r a (zFM f lv x) (zFM f lv x')
 | 0,_,_,_,_,_ => .err
 | f + 1,lv,a,x,x',h => by
   unfold zFM
   refine .ite (fun ha => by rw [h.sg _ ha]) (fun _ => .err) fun _ => .then (zCA hE h _).lo fun _ _ y y' hy => ?_
   exact setF_ls hE (fun h => sel_lo hE (fun h => (zFL f (lv + 1) h).lo) h) _ _ _ (by have:=hy.len hE; omega) hy
theorem set_ls {a : List Tok} {x x' : PS} (h : J e r a x x') : LS e r a (setQ x) (setQ x'):=zFL hE _ _ h
theorem zHT : ∀ (f g : Nat) (acc : List D) {a : List Tok} {x x' : PS},f <= g -> J e r a x x' -> LS e r a (varsF f acc x) (varsF g acc x')
 | 0,_,_,_,_,_,_,_ => .err
 | f + 1,0,_,_,_,_,hfg,_ => by omega
 | f + 1,g + 1,acc,a,x,x',hfg,h => by
   unfold varsF
   refine .ite (fun ha => by rw [h.sg _ ha]) (fun hs => ?_) fun _ => .ite (fun ha => by rw [h.sg _ ha]) (fun _ => .err) fun _ => .then (zCA hE h _).lo fun _ _ _ _ hy => .then (zBN hE hy).lo fun _ _ _ _ hz => .then (zCA hE hz _).lo fun _ _ _ _ hu => .then (typ_lo hE hu) fun _ _ v v' hv => .then (.ite (hv.sg _) (fun hs => ?_) fun _ => .okk hv _) fun _ _ _ _ ho => zHT f g _ (by omega) ho
   . obtain ⟨t,a',rfl,h'⟩:=h.ne_of_isS hE hs.2
     exact .okn h' _
   . obtain ⟨t,a',rfl,h'⟩:=hv.ne_of_isS hE hs
     exact LO.mono (b:=a') (.then (zFA hE (x:={ nxT v with vr:=false }) (x':={ nxT v' with vr:=false }) ⟨h'.l,h'.r,rfl,h'.nd⟩) fun _ _ o o' ho => .okk (x:={ o with vr:=true }) (x':={ o' with vr:=true }) ⟨ho.l,ho.r,rfl,ho.nd⟩ _) ⟨[t],rfl⟩
theorem op_ls (k : Int) {a : List Tok} {x x' : PS} (h : J e r a x x') : LS e r a (opQ k x) (opQ k x'):=by
 unfold opQ
 refine .then (.ite (fun ha => by rw [h.hd ha]) (fun hk => ?_) fun _ => .okk h _) fun _ _ y y' hy => .then (.ite (hy.sg _) (fun hs => ?_) fun _ => .okk hy _) fun _ _ _ _ hz => .pure (set_ls hE hz) fun _ _ u u' hu => ⟨_,u,u',rfl,rfl,hu⟩
 . obtain ⟨t,a',rfl,h'⟩:=h.ne_of_k hE (by rw [hk]; decide)
   rw [h.hd (by simp)]
   exact (LS.okn h' _).lo
 . obtain ⟨t,a',rfl,h'⟩:=hy.ne_of_isS hE hs
   exact (zHT hE _ _ _ (hy.len hE) h').lo.mono ⟨[t],rfl⟩
theorem frag_ls {a : List Tok} {x x' : PS} (h : J e r a x x') : LS e r a (fragQ x) (fragQ x'):=by
 unfold fragQ
 refine .ite (fun ha => by rw [h.hd ha]) (fun _ => .err) fun _ => .then (zBN hE h).lo fun _ _ y y' hy => .ite (fun ha => by rw [hy.hd ha]) (fun hk => ?_) fun _ => .err
 obtain ⟨t,a',rfl,h'⟩:=hy.ne_of_k hE (by rw [hk.1]; decide)
 refine LS.mono (b:=a') ?_ ⟨[t],rfl⟩
 exact .then (zBN hE h').lo fun _ _ _ _ hz => .pure (set_ls hE hz) fun _ _ u u' hu => ⟨_,u,u',rfl,rfl,hu⟩
end
end Go.Proofs.YtdlnnlglmifceaaGreatDoor
namespace Go.Proofs.YtdlnnlglmifceaaGreatDoor
def En (x : PS) : Prop:=∃ a e,x.ts = a ++ [e] /\ e.k = 5 /\ ∀ t ∈ x.ts,t.s.length <= 100000
theorem En.cons {x : PS} (h : En x) : ∃ t r,x.ts = t :: r:=by
 obtain ⟨a,e,h1,-⟩:=h
 rw [h1]
 cases a with
 | nil => exact ⟨e,[],rfl⟩
 | cons t a => exact ⟨t,a ++ [e],rfl⟩
theorem En.lo {α : Type} {x y : PS} {v : α} (h : En x) {p : PS -> PR α} (hp : ∀ {e : Tok} {a : List Tok} {x x' : PS},Ends e [e] -> J e [e] a x x' -> LO e [e] a (p x) (p x')) (hq : p x = .ok (v,y)) : En y /\ y.ts.length <= x.ts.length:=by
 obtain ⟨a,e,h1,h2,h4⟩:=h
 obtain ⟨b,⟨d,hd⟩,h3,-⟩:=hp (e:=e) (a:=a) (x:=x) (x':=x) ⟨h2,by simp⟩ ⟨h1,h1,rfl,rfl⟩ v y hq
 exact ⟨⟨b,e,h3,h2,fun t ht => h4 t (by rw [h1,hd]; rw [h3] at ht; simp at ht |-; exact .inr ht)⟩,by rw [h3,h1,hd]; simp⟩
theorem En.ls {α : Type} {x y : PS} {v : α} (h : En x) {p : PS -> PR α} (hp : ∀ {e : Tok} {a : List Tok} {x x' : PS},Ends e [e] -> J e [e] a x x' -> LS e [e] a (p x) (p x')) (hq : p x = .ok (v,y)) : En y /\ y.ts.length < x.ts.length:=by
 obtain ⟨a,e,h1,h2,h4⟩:=h
 obtain ⟨b,y',⟨t,d,hd⟩,-,h3⟩:=hp (e:=e) (a:=a) (x:=x) (x':=x) ⟨h2,by simp⟩ ⟨h1,h1,rfl,rfl⟩ v y hq
 exact ⟨⟨b,e,h3.l,h2,fun t ht => h4 t (by rw [h1,hd]; rw [h3.l] at ht; simp at ht |-; exact .inr (.inr ht))⟩,by rw [h3.l,h1,hd]; simp; omega⟩
theorem En.name {x y : PS} {v : List UInt8} (h : En x) (hq : zBh x = .ok (v,y)) : En y /\ y.ts.length < x.ts.length:=h.ls (p:=zBh) (fun hE h => zBN hE h) hq
theorem En.take {x y : PS} {s : List UInt8} (h : En x) (hq : zDG s x = .ok ((),y)) : En y /\ y.ts.length < x.ts.length:=h.ls (p:=zDG s) (fun hE h => zCA hE h s) hq
theorem En.value {f lv : Nat} {x y : PS} {v : D} (h : En x) (hq : zCv f lv x = .ok (v,y)) : En y /\ y.ts.length <= x.ts.length:=h.lo (p:=zCv f lv) (fun hE h => zDj hE f lv h) hq
theorem En.whole {x y : PS} {v : D} (h : En x) (hq : zEb x = .ok (v,y)) : En y /\ y.ts.length <= x.ts.length:=h.lo (p:=zEb) (fun hE h => zFA hE h) hq
theorem En.args {x y : PS} {v : List D} (h : En x) (hq : zHK x = .ok (v,y)) : En y /\ y.ts.length <= x.ts.length:=h.lo (p:=zHK) (fun hE h => zHH hE h) hq
theorem En.dirs {x y : PS} {v : List D} (h : En x) (hq : zHA x = .ok (v,y)) : En y /\ y.ts.length <= x.ts.length:=h.lo (p:=zHA) (fun hE h => zFf hE h) hq
theorem En.sel {f lv : Nat} {x y : PS} {v : D} (h : En x) (hq : selQ (zFM f lv) x = .ok (v,y)) : En y /\ y.ts.length <= x.ts.length:=h.lo (p:=selQ (zFM f lv)) (fun hE h => sel_lo hE (fun h => (zFL hE f lv h).lo) h) hq
theorem En.sels {f lv : Nat} {x y : PS} {v : List D} (h : En x) (hq : zFM f lv x = .ok (v,y)) : En y /\ y.ts.length < x.ts.length:=h.ls (p:=zFM f lv) (fun hE h => zFL hE f lv h) hq
theorem En.op {k : Int} {x y : PS} {v : D} (h : En x) (hq : opQ k x = .ok (v,y)) : En y /\ y.ts.length < x.ts.length:=h.ls (p:=opQ k) (fun hE h => op_ls hE k h) hq
theorem En.frag {x y : PS} {v : D} (h : En x) (hq : fragQ x = .ok (v,y)) : En y /\ y.ts.length < x.ts.length:=h.ls (p:=fragQ) (fun hE h => frag_ls hE h) hq
theorem En.nx {x : PS} (h : En x) (hk : (hdT x).k ≠ 5) : En (nxT x) /\ (nxT x).ts.length < x.ts.length:=by
 obtain ⟨a,e,h1,h2,h4⟩:=h
 have hJ : J e [e] a x x:=⟨h1,h1,rfl,rfl⟩
 obtain ⟨t,a',rfl,h3⟩:=hJ.ne_of_k (e:=e) (r:=[e]) ⟨h2,by simp⟩ hk
 exact ⟨⟨a',e,h3.l,h2,fun t ht => h4 t (by rw [h1]; rw [h3.l] at ht; simp at ht |-; exact .inr ht)⟩,by rw [h3.l,h1]; simp⟩
theorem En.hd {x : PS} (h : En x) : (hdT x).s.length <= 100000:=by
 obtain ⟨t,r,ht⟩:=h.cons
 obtain ⟨a,e,-,-,h4⟩:=h
 have : hdT x = t:=by unfold hdT; rw [ht]; rfl
 rw [this]
 exact h4 t (by rw [ht]; simp)
theorem En.sg {x : PS} {s : List UInt8} (h : En x) (hk : isS x s = true) : En (nxT x) /\ (nxT x).ts.length < x.ts.length:=by
 refine h.nx ?_
 unfold isS at hk
 simp only [Bool.and_eq_true,beq_iff_eq] at hk
 rw [hk.1]; decide
end Go.Proofs.YtdlnnlglmifceaaGreatDoor
namespace Go.Proofs.YtdlnnlglmifceaaGreatDoor
open Go.RowKit
attribute [local irreducible] wpList Calls Code.wp AW AWo OpOk seqK zAi zAp loopK endK AC zAC Yld Sub
attribute [local irreducible] ACB ACX absLexG YldG
theorem En.nd {x : PS} (h : En x) (n : Nat) (v : Bool) : En ⟨x.ts,v,n⟩:=h
theorem zFE {α β : Type} {r : PR α} {f : α -> PS -> PR β} {a : α} {x : PS} (h : r = .ok (a,x)) : zAh r f = f a x:=by rw [h]; rfl
theorem zDk {α β : Type} {r : PR α} {f : α -> PS -> PR β} {e : Nat × Int} (h : r = .error e) : zAh r f = .error e:=by rw [h]; rfl
end Go.Proofs.YtdlnnlglmifceaaGreatDoor
namespace Go.Proofs.YtdlnnlglmifceaaGreatDoor
def Nz {α : Type} (r : PR α) : Prop:=∀ i,r ≠ .error (i,0)
section
variable {α β : Type}
theorem Nz.okk (p : α × PS) : Nz (.ok p : PR α):=fun i h => by cases h
theorem Nz.err {i : Nat} {e : Int} (h : e ≠ 0) : Nz (.error (i,e) : PR α):=fun j hj => by cases hj; exact h rfl
theorem Nz.ite {c : Prop} [Decidable c] {a b : PR α} (h1 : c -> Nz a) (h2 : ¬ c -> Nz b) : Nz (if c then a else b):=by
 split
 . exact h1 ‹_›
 . exact h2 ‹_›
theorem Nz.then {r : PR α} {f : α -> PS -> PR β} (h : Nz r) (hf : ∀ a x,r = .ok (a,x) -> Nz (f a x)) : Nz (zAh r f):=by
 cases hr : r with
 | error e =>
   rw [zDk (r:=.error e) rfl]
   intro i hi
   cases hi
   exact h i hr
 | ok p =>
   obtain ⟨a,x⟩:=p
   rw [zFE (r:=.ok (a,x)) rfl]
   exact hf a x hr
end
end Go.Proofs.YtdlnnlglmifceaaGreatDoor
namespace Go.Proofs.YtdlnnlglmifceaaGreatDoor
def Mz {α : Type} (r : PR α) : Prop:=∀ i e,r = .error (i,e) -> 0 < e /\ e <= 100
section
variable {α β : Type}
theorem Mz.okk (p : α × PS) : Mz (.ok p : PR α):=fun i e h => by cases h
theorem Mz.err {i : Nat} {e : Int} (h : 0 < e /\ e <= 100) : Mz (.error (i,e) : PR α):=fun j e' hj => by cases hj; exact h
theorem Mz.ite {c : Prop} [Decidable c] {a b : PR α} (h1 : c -> Mz a) (h2 : ¬ c -> Mz b) : Mz (if c then a else b):=by
 split
 . exact h1 ‹_›
 . exact h2 ‹_›
theorem Mz.then {r : PR α} {f : α -> PS -> PR β} (h : Mz r) (hf : ∀ a x,r = .ok (a,x) -> Mz (f a x)) : Mz (zAh r f):=by
 cases hr : r with
 | error e =>
   rw [zDk (r:=.error e) rfl]
   intro i e' hi
   cases hi
   exact h i e' hr
 | ok p =>
   obtain ⟨a,x⟩:=p
   rw [zFE (r:=.ok (a,x)) rfl]
   exact hf a x hr
end
end Go.Proofs.YtdlnnlglmifceaaGreatDoor
namespace Go.Proofs.YtdlnnlglmifceaaGreatDoor
def tw : List Tok -> Nat
 | [] => 0
 | t :: r => t.s.length + 40 + tw r
def Bd {α : Type} (μ : α -> Nat) (N : Nat) (r : PR α) : Prop:=∀ v y,r = .ok (v,y) -> μ v + tw y.ts <= N
section
variable {α β : Type} {μ : α -> Nat} {ν : β -> Nat} {N M : Nat}
theorem Bd.okk {v : α} {y : PS} (h : μ v + tw y.ts <= N) : Bd μ N (.ok (v,y) : PR α):=fun _ _ e => by cases e; exact h
theorem Bd.err {e : Nat × Int} : Bd μ N (.error e : PR α):=fun _ _ h => by cases h
theorem Bd.ite {c : Prop} [Decidable c] {a b : PR α} (h1 : c -> Bd μ N a) (h2 : ¬ c -> Bd μ N b) : Bd μ N (if c then a else b):=by
 split
 . exact h1 ‹_›
 . exact h2 ‹_›
theorem Bd.then {r : PR α} {f : α -> PS -> PR β} (h : Bd μ N r) (hf : ∀ a x,μ a + tw x.ts <= N -> Bd ν M (f a x)) : Bd ν M (zAh r f):=by
 cases hr : r with
 | error e =>
   rw [zDk (r:=.error e) rfl]
   exact .err
 | ok p =>
   obtain ⟨a,x⟩:=p
   rw [zFE (r:=.ok (a,x)) rfl]
   exact hf a x (h a x hr)
end
def sl (s : List UInt8) : Nat:=s.length + 40
section
variable {v : PS -> PR D} (hv : ∀ y,Bd bulkD (tw y.ts) (v y))
include hv
end
end Go.Proofs.YtdlnnlglmifceaaGreatDoor
namespace Go.Proofs.YtdlnnlglmifceaaGreatDoor
def Hr {α : Type} (Q : α -> PS -> Prop) (r : PR α) : Prop:=∀ v z,r = .ok (v,z) -> Q v z
section
variable {α β : Type} {Q : α -> PS -> Prop} {R : β -> PS -> Prop}
theorem Hr.okk {v : α} {z : PS} (h : Q v z) : Hr Q (.ok (v,z) : PR α):=fun _ _ e => by cases e; exact h
theorem Hr.err {e : Nat × Int} : Hr Q (.error e : PR α):=fun _ _ h => by cases h
theorem Hr.ite {c : Prop} [Decidable c] {a b : PR α} (h1 : c -> Hr Q a) (h2 : ¬ c -> Hr Q b) : Hr Q (if c then a else b):=by
 split
 . exact h1 ‹_›
 . exact h2 ‹_›
theorem Hr.then {r : PR α} {f : α -> PS -> PR β} (h : Hr Q r) (hf : ∀ a x,Q a x -> Hr R (f a x)) : Hr R (zAh r f):=by
 cases hr : r with
 | error e =>
   rw [zDk (r:=.error e) rfl]
   exact .err
 | ok p =>
   obtain ⟨a,x⟩:=p
   rw [zFE (r:=.ok (a,x)) rfl]
   exact hf a x (h a x hr)
theorem Hr.mono {r : PR α} {Q' : α -> PS -> Prop} (h : Hr Q r) (hq : ∀ a x,Q a x -> Q' a x) : Hr Q' r:=fun v z e => hq v z (h v z e)
end
def GT (x : PS) : Prop:=∀ t ∈ x.ts,(t.k = 2 -> nameB ⟨t.s.toArray⟩ = true) /\ 1 <= t.k /\ t.k <= 5
theorem GT.nx {x : PS} (h : GT x) : GT (nxT x):=fun t ht => by
 unfold nxT at ht
 split at ht
 . exact h t ht
 . exact h t (List.mem_of_mem_drop ht)
theorem nx_vr (x : PS) : (nxT x).vr = x.vr:=by unfold nxT; split <;> rfl
theorem nx_nd2 (x : PS) : (nxT x).nd = x.nd:=by unfold nxT; split <;> rfl
theorem GT.hd {x : PS} (h : GT x) : ((hdT x).k = 2 -> nameB ⟨(hdT x).s.toArray⟩ = true) /\ 1 <= (hdT x).k /\ (hdT x).k <= 5:=by
 unfold hdT
 cases hx : x.ts with
 | nil => exact ⟨fun h => absurd h (by decide),by decide,by decide⟩
 | cons t r => exact h t (by rw [hx]; exact List.mem_cons_self ..)
structure Pv (x z : PS) : Prop where
 gt : GT z
 vr : z.vr = x.vr
theorem Pv.trans {x y z : PS} (h1 : Pv x y) (h2 : Pv y z) : Pv x z:=⟨h2.gt,h2.vr.trans h1.vr⟩
theorem GT.pv {x : PS} (h : GT x) : Pv x x:=⟨h,rfl⟩
theorem GT.pvn {x : PS} (h : GT x) : Pv x (nxT x):=⟨h.nx,nx_vr x⟩
theorem name_rt {x : PS} (h : GT x) : Hr (fun n z => nameB ⟨n.toArray⟩ = true /\ Pv x z /\ z.nd = x.nd) (zBh x):=by
 unfold zBh
 exact .ite (fun hk => .okk ⟨h.hd.1 hk,h.pvn,nx_nd2 x⟩) fun _ => .err
structure VOk (lv : Nat) (vr : Bool) (n0 : Nat) (v : D) (n1 : Nat) : Prop where
 sz : ∀ k,Dp k v -> sizeR k v + n0 = n1
 dp : ∀ k,Dp k v -> depthR k v + lv <= 25
 ev : ∀ k,Dp k v -> everyL k v = true
 br : vr = false -> ∀ k,Dp k v -> bareR k v = true
structure CH (lv : Nat) (vr : Bool) (n0 : Nat) (l : List D) (n1 : Nat) : Prop where
 sz : ∀ k,(∀ i,i < l.length -> Dp k (gD l i)) -> sumN (fun i => sizeR k (gD l i)) l.length + n0 = n1
 dp : ∀ i,i < l.length -> ∀ k,Dp k (gD l i) -> depthR k (gD l i) + lv <= 25
 ev : ∀ i,i < l.length -> ∀ k,Dp k (gD l i) -> everyL k (gD l i) = true
 br : vr = false -> ∀ i,i < l.length -> ∀ k,Dp k (gD l i) -> bareR k (gD l i) = true
theorem CH.nil {lv : Nat} {vr : Bool} {n : Nat} : CH lv vr n [] n:=
 ⟨fun k _ => by simp [sumN],fun i hi => absurd hi (Nat.not_lt_zero i),fun i hi => absurd hi (Nat.not_lt_zero i),fun _ i hi => absurd hi (Nat.not_lt_zero i)⟩
section
variable {val : PS -> PR D} {lv n0 : Nat} {vr : Bool} (hv : ∀ y,GT y -> y.vr = vr -> y.nd <= 4096 -> Hr (fun v z => Pv y z /\ VOk lv vr y.nd v z.nd /\ z.nd <= 4096) (val y))
include hv
end
def Al (p : D -> Bool) (l : List D) : Prop:=∀ i,i < l.length -> p (gD l i) = true
theorem Al.nil {p : D -> Bool} : Al p []:=fun i hi => absurd hi (Nat.not_lt_zero i)
theorem Hr.name {β : Type} {R : β -> PS -> Prop} {x : PS} {f : List UInt8 -> PS -> PR β} (h : GT x) (hf : ∀ n z,(hdT x).k = 2 -> nameB ⟨n.toArray⟩ = true -> Pv x z -> Hr R (f n z)) : Hr R (zAh (zBh x) f):=by
 by_cases hk : (hdT x).k = 2
 . exact .then (name_rt h) fun n z hz => hf n z hk hz.1 hz.2.1
 . unfold zBh
   rw [if_neg hk]
   exact .err
end Go.Proofs.YtdlnnlglmifceaaGreatDoor
namespace Go.Proofs.YtdlnnlglmifceaaGreatDoor
abbrev KS:=List (Int × List UInt8)
def gK (g : Nat -> KS) (j m : Nat) : KS:=(List.range' j m).flatMap g
theorem gK_last (g : Nat -> KS) : ∀ m,gK g 0 (m + 1) = gK g 0 m ++ g m:=fun m => by
 unfold gK
 rw [List.range'_concat,List.flatMap_append]
 simp
def Gap (sep : List UInt8) : Prop:=Ps sep [] /\ sep ≠ [] /\ bnd sep
theorem Gap.line : Gap [10]:=⟨.sep rfl,by decide,zID (by decide)⟩
theorem Pw.gap {a b sep : List UInt8} {ka kb : KS} (h : Pw a ka) (hs : Gap sep) (k : Pw b kb) : Pw (a ++ sep ++ b) (ka ++ kb):=by
 have h1:=h.app hs.1 ⟨hs.2.1,hs.2.2⟩
 rw [List.append_nil] at h1
 exact h1.appw k
theorem Pw.join {f : Nat -> List UInt8} {g : Nat -> KS} {sep : List UInt8} (hs : Gap sep) : ∀ n,(∀ i,i < n -> Pw (f i) (g i)) -> Pw (Lib.join ((List.range n).map f) sep) (gK g 0 n)
 | 0,_ => Ps.nil.w
 | n + 1,h => by
   have ih:=Pw.join (f:=f) (g:=g) hs n fun i hi => h i (by omega)
   rw [gK_last,List.range_succ,List.map_append]
   cases n with
   | zero =>
     have e : Lib.join ((List.range 0).map f ++ [0].map f) sep = f 0:=by simp [Lib.join_one]
     rw [e]
     exact h 0 (by omega)
   | succ n =>
     have e : (List.range (n + 1)).map f ≠ []:=fun e => by have:=congrArg List.length e; simp at this
     rw [List.map_cons,List.map_nil,joinSnoc _ _ _ e]
     exact ih.gap hs (h (n + 1) (by omega))
theorem Ps.wrap {a b : UInt8} {t : List UInt8} {k : KS} (ha : zEU a = true) (hb : zEU b = true) (h : Pw t k) : Ps ([a] ++ t ++ [b]) ((1,[a]) :: (k ++ [(1,[b])])):=by
 have h1:=(Ps.sign ha).appw h
 have h2:=h1.app (Ps.sign hb) ⟨by simp,zID (zEf b hb).2.2⟩
 exact h2
structure NodeF (d : D) : Prop where
 int0 : (d.f 0).n = 1 \/ (d.f 0).n = 2 \/ (d.f 1).n = 0
 txt0 : (d.f 0).n = 3 \/ (d.f 0).n = 4 \/ (d.f 0).n = 7 \/ tx (d.f 2).s = []
 keys0 : (d.f 0).n = 6 \/ (d.f 4).l.length = 0
 items0 : (d.f 0).n = 6 \/ (d.f 0).n = 5 \/ (d.f 3).l.length = 0
 kind : 0 <= (d.f 0).n /\ (d.f 0).n <= 7
 bool : (d.f 0).n = 1 -> (d.f 1).n = 0 \/ (d.f 1).n = 1
 enum : (d.f 0).n = 4 -> enumR (d.f 2).s = true
 var : (d.f 0).n = 7 -> nameB (d.f 2).s = true
 obj : (d.f 0).n = 6 -> (∀ i,i < (d.f 4).l.length -> nameB (gD (d.f 4).l i).s = true) /\ (d.f 4).l.length = (d.f 3).l.length /\ (strsR d).Nodup
theorem zCt {p : D -> Bool} {l : List D} (h : (l.any fun x => !p x) = false) : ∀ i,i < l.length -> p (gD l i) = true:=fun i hi => by
 rw [List.any_eq_false] at h
 have:=h _ (gD_mem hi)
 simpa using this
theorem xnode {d : D} (h : zGs d = true) : NodeF d:=by
 unfold zGs nodeK at h
 simp only [Bool.and_eq_true,Bool.or_eq_true,beq_iff_eq,decide_eq_true_eq,Bool.not_eq_true',beq_eq_false_iff_ne] at h
 obtain ⟨⟨⟨⟨⟨⟨⟨⟨h1,h2⟩,h3⟩,h4⟩,h5⟩,h6⟩,h7⟩,h8⟩,h9⟩:=h
 refine ⟨?_,?_,h3,?_,h5,?_,?_,?_,?_⟩
 . rcases h1 with (h | h) | h
   . exact .inl h
   . exact .inr (.inl h)
   . exact .inr (.inr h)
 . rcases h2 with ((h | h) | h) | h
   . exact .inl h
   . exact .inr (.inl h)
   . exact .inr (.inr (.inl h))
   . exact .inr (.inr (.inr h))
 . rcases h4 with (h | h) | h
   . exact .inl h
   . exact .inr (.inl h)
   . exact .inr (.inr h)
 . intro h
   rcases h6 with (h' | h') | h'
   . exact absurd h h'
   . exact .inl h'
   . exact .inr h'
 . intro h
   rcases h7 with h' | h'
   . exact absurd h h'
   . exact h'
 . intro h
   rcases h8 with h' | h'
   . exact absurd h h'
   . exact h'
 . intro h
   rcases h9 with h' | h'
   . exact absurd h h'
   . exact ⟨zCt h'.1.1,h'.1.2,h'.2⟩
theorem every_node {k : Nat} {d : D} (h : everyL (k + 1) d = true) : NodeF d /\ ∀ i,i < (d.f 3).l.length -> everyL k (gD (d.f 3).l i) = true:=by
 unfold everyL at h
 rw [Bool.and_eq_true,Bool.not_eq_true'] at h
 exact ⟨xnode h.1,zCt h.2⟩
theorem argsR_all {l : List D} (h : zHJ l = true) : l.length <= 16 /\ ∀ i,i < l.length -> nameB ((gD l i).f 0).s = true /\ litR ((gD l i).f 1) = true:=by
 unfold zHJ at h
 rw [Bool.and_eq_true,Bool.not_eq_true',decide_eq_true_eq] at h
 refine ⟨h.1,fun i hi => ?_⟩
 have:=zCt h.2 i hi
 unfold argR at this
 rwa [Bool.and_eq_true] at this
theorem dirsR_all {l : List D} (h : dirsR l = true) : l.length <= 16 /\ ∀ i,i < l.length -> nameB ((gD l i).f 0).s = true /\ zHJ ((gD l i).f 1).l = true:=by
 unfold dirsR at h
 rw [Bool.and_eq_true,Bool.not_eq_true',decide_eq_true_eq] at h
 refine ⟨h.1,fun i hi => ?_⟩
 have:=zCt h.2 i hi
 unfold dirR at this
 rwa [Bool.and_eq_true] at this
structure SelF (sub : List D -> Nat -> Prop) (d : D) : Prop where
 args : zHJ (d.f 4).l = true
 dirs : dirsR (d.f 5).l = true
 field : (d.f 0).n = 1 -> tx (d.f 3).s = [] /\ nameB (d.f 2).s = true /\ (tx (d.f 1).s = [] \/ nameB (d.f 1).s = true) /\ sub (d.f 6).l 0
 spread : (d.f 0).n = 2 -> tx (d.f 3).s = [] /\ tx (d.f 1).s = [] /\ (d.f 4).l.length = 0 /\ (d.f 6).l.length = 0 /\ nameB (d.f 2).s = true /\ tx (d.f 2).s ≠ [111,110]
 inline : (d.f 0).n = 3 -> tx (d.f 1).s = [] /\ tx (d.f 2).s = [] /\ (d.f 4).l.length = 0 /\ (tx (d.f 3).s = [] \/ nameB (d.f 3).s = true) /\ sub (d.f 6).l 1
 kind : (d.f 0).n = 1 \/ (d.f 0).n = 2 \/ (d.f 0).n = 3
theorem zD5 {s : ByteArray} : noneS s = true ↔ tx s = []:=by unfold noneS tx; rw [beq_iff_eq]
theorem zHV {s : ByteArray} (h : titleR s = true) : nameB s = true /\ tx s ≠ [111,110]:=by
 unfold titleR at h
 rw [Bool.and_eq_true,Bool.not_eq_true',beq_eq_false_iff_ne] at h
 exact h
def SetF (sel : D -> Prop) (lv : Nat) (l : List D) (least : Nat) : Prop:=least <= l.length /\ l.length <= 64 /\ (l.length = 0 \/ lv <= 24) /\ ∀ i,i < l.length -> sel (gD l i)
theorem xset {sel : D -> Bool} {l : List D} {least lv : Nat} (h : selsR sel l least lv = true) : SetF (fun d => sel d = true) lv l least:=by
 unfold selsR at h
 simp only [Bool.and_eq_true,Bool.or_eq_true,decide_eq_true_eq,Bool.not_eq_true'] at h
 exact ⟨h.1.1.1,h.1.1.2,h.1.2,zCt h.2⟩
theorem xsel {k lv : Nat} {d : D} (h : selR (k + 1) lv d = true) : SelF (fun l least => SetF (fun x => selR k (lv + 1) x = true) (lv + 1) l least) d:=by
 unfold selR at h
 rw [Bool.and_eq_true,Bool.and_eq_true] at h
 obtain ⟨⟨h1,h2⟩,h3⟩:=h
 by_cases k1 : (d.f 0).n = 1
 . rw [if_pos k1] at h3
   simp only [Bool.and_eq_true,Bool.or_eq_true,zD5] at h3
   exact ⟨h1,h2,fun _ => ⟨h3.1.1.1,h3.1.1.2,h3.1.2,xset h3.2⟩,fun e => by omega,fun e => by omega,.inl k1⟩
 rw [if_neg k1] at h3
 by_cases k2 : (d.f 0).n = 2
 . rw [if_pos k2] at h3
   simp only [Bool.and_eq_true,zD5,decide_eq_true_eq] at h3
   have ht:=zHV h3.2
   exact ⟨h1,h2,fun e => absurd e k1,fun _ => ⟨h3.1.1.1.1,h3.1.1.1.2,h3.1.1.2,h3.1.2,ht.1,ht.2⟩,fun e => by omega,.inr (.inl k2)⟩
 rw [if_neg k2] at h3
 by_cases k3 : (d.f 0).n = 3
 . rw [if_pos k3] at h3
   simp only [Bool.and_eq_true,Bool.or_eq_true,zD5,decide_eq_true_eq] at h3
   exact ⟨h1,h2,fun e => absurd e k1,fun e => absurd e k2,fun _ => ⟨h3.1.1.1.1,h3.1.1.1.2,h3.1.1.2,h3.1.2,xset h3.2⟩,.inr (.inr k3)⟩
 . rw [if_neg k3] at h3; cases h3
section
variable (lit : D -> Bool)
def valY (v : D) : Bool:=lit v && bareR (bulkD v) v
end
structure ValP (v : D) : Prop where
 lit : litR v = true
 bare : bareR (bulkD v) v = true
structure ArgP (a : D) : Prop where
 name : nameB (a.f 0).s = true
 val : ValP (a.f 1)
structure DirP (x : D) : Prop where
 name : nameB (x.f 0).s = true
 len : (x.f 1).l.length <= 16
 args : ∀ i,i < (x.f 1).l.length -> ArgP (gD (x.f 1).l i)
structure DirsP (l : List D) : Prop where
 len : l.length <= 16
 dirs : ∀ i,i < l.length -> DirP (gD l i)
structure InP (x : D) : Prop where
 name : nameB (x.f 0).s = true
 rname : nameB ((x.f 1).f 0).s = true
 rlen : ((x.f 1).f 1).l.length <= 24
 wraps : zDU (((x.f 1).f 1).l.map D.n) = true
 dirs : DirsP (x.f 4).l
 val : ValP (x.f 3)
 has : (x.f 2).b = true \/ ((x.f 3).f 0).n = 0
structure InsP (l : List D) : Prop where
 len : l.length <= 16
 ins : ∀ i,i < l.length -> InP (gD l i)
structure FdP (x : D) : Prop where
 name : nameB (x.f 0).s = true
 args : InsP (x.f 1).l
 rname : nameB ((x.f 2).f 0).s = true
 rlen : ((x.f 2).f 1).l.length <= 24
 wraps : zDU (((x.f 2).f 1).l.map D.n) = true
 dirs : DirsP (x.f 3).l
structure MbP (u : Bool) (x : D) : Prop where
 name : nameB (x.f 0).s = true
 dirs : DirsP (x.f 1).l
 no : u = true -> (x.f 1).l.length = 0
structure DefP (d : D) : Prop where
 kind : 1 <= (d.f 0).n /\ (d.f 0).n <= 5
 name : nameB (d.f 1).s = true
 dirs : DirsP (d.f 3).l
 ilen : (d.f 2).l.length <= 64
 im : ∀ i,i < (d.f 2).l.length -> nameB (gD (d.f 2).l i).s = true
 im0 : (d.f 2).l.length = 0 \/ (d.f 0).n = 1
 f0 : ((d.f 0).n = 1 \/ (d.f 0).n = 2) ↔ 0 < (d.f 4).l.length
 m0 : ((d.f 0).n = 3 \/ (d.f 0).n = 4) ↔ 0 < (d.f 5).l.length
 i0 : (d.f 0).n = 5 ↔ 0 < (d.f 6).l.length
 flen : (d.f 4).l.length <= 64
 fds : ∀ i,i < (d.f 4).l.length -> FdP (gD (d.f 4).l i)
 mlen : (d.f 5).l.length <= 64
 mbs : ∀ i,i < (d.f 5).l.length -> MbP ((d.f 0).n == 3) (gD (d.f 5).l i)
 ins : InsP (d.f 6).l
end Go.Proofs.YtdlnnlglmifceaaGreatDoor
namespace Go.Proofs.YtdlnnlglmifceaaGreatDoor
open Go.RowKit
set_option linter.unusedSectionVars false
def nullB (d : D) : Bool:=(d.f 0).n == 0 && (d.f 1).n == 0 && ((d.f 2).s.data.toList == []) && decide ((d.f 3).l.length = 0) && decide ((d.f 4).l.length = 0)
theorem null_valW (d : D) : nullB d = (valY litW d && (d.f 0).n == 0):=by
 obtain ⟨b,hb⟩ : ∃ b,bulkD d = b + 1:=⟨bulkD d - 1,by have:=zBB d; omega⟩
 have hs : sizeW (b + 1) d = IntKind.i64.wrap ((1 + sumN (fun i => sizeR b (gD (d.f 3).l i)) (d.f 3).l.length : Nat) : Int):=rfl
 have hd : zDd (b + 1) d = IntKind.i64.wrap (maxW (fun i => zDd b (gD (d.f 3).l i)) (d.f 3).l.length + 1):=rfl
 have he : everyL (b + 1) d = (zGs d && !((d.f 3).l.any fun x => !everyL b x)):=rfl
 have hr : bareR (b + 1) d = (!((d.f 0).n == 7) && !((d.f 3).l.any fun x => !bareR b x)):=rfl
 rw [Bool.eq_iff_iff]
 constructor
 . intro h
   unfold nullB at h
   simp only [Bool.and_eq_true,beq_iff_eq,decide_eq_true_eq] at h
   obtain ⟨⟨⟨⟨h0,h1⟩,h2⟩,h3⟩,h4⟩:=h
   have z3:=List.eq_nil_of_length_eq_zero h3
   have z4:=List.eq_nil_of_length_eq_zero h4
   unfold valY litW
   rw [hb,hs,hd,he,hr,h3,z3]
   have hn : zGs d = true:=by
    unfold zGs
    rw [h0,h1,h2,h3,h4,show strsR d = [] by unfold strsR; rw [z4]; rfl,z4]
    rfl
   rw [hn,h0]; rfl
 . intro h
   rw [Bool.and_eq_true,beq_iff_eq] at h
   obtain ⟨h,h0⟩:=h
   unfold valY litW at h
   rw [hb,he] at h
   simp only [Bool.and_eq_true] at h
   have hx:=xnode h.1.2.1
   unfold nullB
   rw [h0]
   have q1 : (d.f 1).n = 0:=by rcases hx.int0 with h | h | h <;> omega
   have q2 : tx (d.f 2).s = []:=by rcases hx.txt0 with h | h | h | h <;> first | exact h | omega
   have q3 : (d.f 3).l.length = 0:=by rcases hx.items0 with h | h | h <;> omega
   have q4 : (d.f 4).l.length = 0:=by rcases hx.keys0 with h | h <;> omega
   have q2 : (d.f 2).s.data.toList = []:=q2
   rw [q1,q2,q3,q4]; rfl
attribute [local irreducible] wpList Calls Code.wp AW AWo OpOk seqK zAi zAp loopK endK AC zAC Yld Sub
attribute [local irreducible] ACB ACX absLexG YldG absLexH
noncomputable def HTfU (d : D) (i : Nat) : Vst 54:=stS 54 [(1,.bx 1 0),(3,.c (.int .i64 (i : Int)))] [(1,.box 59 (cellsV Tryz.prog 12 59 d))]
theorem refFU_ac (d : D) : AC EN Tryz.prog 55 [.agg (cellsV Tryz.prog 12 59 d)] (.c (.bool (refR d))):=by
 refine zEP 2 (by kernel_rfl) fun hL2 => ?_
 have hl : (d.f 1).l.length <= 9223372036854775807:=len_ref hL2
 clear hL2
 have hn:=zAl (d.f 0).s
 have hR : refR d = (nameB (d.f 0).s && decide ((d.f 1).l.length <= 24) && wrapsI (d.f 1).l (d.f 1).l.length 0):=by rw [zHR]; rfl
 generalize refR d = R at hR |-
 have e : decide (((d.f 1).l.length : Int) > 24) = !decide ((d.f 1).l.length <= 24):=by
  rw [Bool.eq_iff_iff]
  simp only [decide_eq_true_eq,Bool.not_eq_true',decide_eq_false_iff_not]
  omega
 refine zh 54 Tryz.func55 rfl rfl rfl rfl ?_
 intro s w he
 repeat' (first
|apply s_wanted_pick_t rfl rfl rfl
 . conv => lhs; whnf
 . first | rfl | assumption
 . conv => lhs; whnf
 . first | exact bT1 ‹_› | exact bT2 ‹_› | rfl
|apply zAL rfl rfl rfl
 . conv => lhs; whnf
 . first | rfl | assumption
 . conv => lhs; whnf
 . first | exact bT1 ‹_› | exact bT2 ‹_› | rfl
|apply s_wanted_pick_f rfl rfl rfl
 . conv => lhs; whnf
 . first | rfl | assumption
 . conv => lhs; whnf
 . first | exact bF1 ‹_› | exact bF2 ‹_› | rfl
|apply zAM rfl rfl rfl
 . conv => lhs; whnf
 . first | rfl | assumption
 . conv => lhs; whnf
 . first | exact bF1 ‹_› | exact bF2 ‹_› | rfl
|refine zB ?_
|refine zM ?_
|refine zk ?_
|refine zV ?_
|refine zd ?_
|apply aw_1
 conv => whnf
 refine ⟨?_,trivial⟩
|apply zp rfl rfl
 . conv => lhs; whnf
 . conv => lhs; whnf
 . first | exact bT1 ‹_› | exact bT2 ‹_›
|apply zo rfl rfl
 . conv => lhs; whnf
 . conv => lhs; whnf
 . first | exact bF1 ‹_› | exact bF2 ‹_›
|apply s_1
 conv => whnf; arg 1; arg 4; arg 3; whnf
 refine ⟨?_,?_⟩
|apply z7 rfl
 . conv => lhs; whnf
 . conv => lhs; whnf; arg 2; whnf
|apply zl rfl
 . conv => lhs; whnf
 . conv => lhs; whnf
 . first | exact hn
|apply zAV rfl rfl rfl rfl
 . conv => lhs; whnf; arg 1; whnf
 . rfl
|apply zS rfl
 . conv => lhs; whnf
 . conv => lhs; whnf
 . first | rfl | assumption
 . conv => lhs; whnf; arg 2; whnf
|apply zR rfl
 . conv => lhs; whnf
 . conv => lhs; whnf
 . first | rfl | assumption
 . conv => lhs; whnf
 . first | exact hn
|apply zAI rfl
 . conv => lhs; whnf
 . conv => lhs; whnf
 . first | rfl | assumption
|apply zAy rfl
 . conv => lhs; whnf
 . rfl
 . rfl
|apply zf rfl
 . conv => lhs; whnf
 . conv => lhs; whnf
 . conv => lhs; whnf; arg 2; whnf
|apply zu rfl
 . conv => lhs; whnf
 . conv => lhs; whnf
 . conv => lhs; whnf
 . first | exact hn
|apply zm rfl
 . conv => lhs; whnf
 . conv => lhs; whnf
 . conv => lhs; whnf; arg 2; whnf
|apply zi rfl
 . conv => lhs; whnf
 . conv => lhs; whnf
 . conv => lhs; whnf
 . first | exact hn
|apply zN
 . conv => lhs; whnf; arg 1; arg 1; whnf
|apply zO
 . conv => lhs; whnf; arg 1; arg 1; whnf
|refine zW (by conv => lhs; whnf) ?_ ?_ <;> intro hb
|refine zn ?_
|refine zb ?_
|refine zH ?_
|refine zL ?_
|refine zG ?_
|refine zD rfl ?_
|refine zF rfl ?_
|refine zE ?_
|refine zJ ?_
|refine zC ?_
|refine zK ?_
|refine z8 ?_
|refine zI ?_
|refine ⟨_,by conv => lhs; whnf; arg 2; whnf,?_⟩; conv => rhs; whnf
|exact trivial
|intro hg)
 . simp_all
   intros
   omega
 . have hR2 : R = wrapsI (d.f 1).l (d.f 1).l.length 0:=by simp_all
   clear hR hn
   refine zAG (fun j st => ∃ i,i + j = (d.f 1).l.length /\ R = wrapsI (d.f 1).l j i /\ Sub (cx EN Tryz.prog s w he) st (HTfU d i)) (d.f 1).l.length ⟨0,by omega,hR2,Sub.live ⟨rfl,rfl,trivial⟩ ⟨rfl,trivial⟩⟩ ?_
   clear hR2 hg hb e
   rintro j st ⟨i,hij,hR,hs2⟩
   refine zAF hs2 ?_
   clear hs2
   by_cases hi : i < (d.f 1).l.length
   . obtain ⟨j,rfl⟩ : ∃ q,j = q + 1:=⟨j - 1,by omega⟩
     have f1 : decide ((i : Int) < ((d.f 1).l.length : Nat)) = true:=decide_eq_true (by omega)
     have e1 : decide ((i : Int) > 0) = decide (0 < i):=decide_eq_decide.2 (by omega)
     have eT : ((i : Int) - 1).toNat = i - 1:=by omega
     have hR' : R = (((gD (d.f (0 + 1)).l (i : Int).toNat).n == 1 || (gD (d.f (0 + 1)).l (i : Int).toNat).n == 2) && !((gD (d.f (0 + 1)).l (i : Int).toNat).n == 1 && decide ((i : Int) > 0) && ((gD (d.f (0 + 1)).l ((i : Int) - 1).toNat).n == (gD (d.f (0 + 1)).l (i : Int).toNat).n)) && wrapsI (d.f 1).l j (i + 1)):=by
      rw [hR,e1,eT,Int.toNat_natCast]; rfl
     clear hR e1
     repeat' (first
|apply s_wanted_pick_t rfl rfl rfl
 . conv => lhs; whnf
 . first | rfl | assumption
 . conv => lhs; whnf
 . first | exact bT1 ‹_› | exact bT2 ‹_› | rfl
|apply zAL rfl rfl rfl
 . conv => lhs; whnf
 . first | rfl | assumption
 . conv => lhs; whnf
 . first | exact bT1 ‹_› | exact bT2 ‹_› | rfl
|apply s_wanted_pick_f rfl rfl rfl
 . conv => lhs; whnf
 . first | rfl | assumption
 . conv => lhs; whnf
 . first | exact bF1 ‹_› | exact bF2 ‹_› | rfl
|apply zAM rfl rfl rfl
 . conv => lhs; whnf
 . first | rfl | assumption
 . conv => lhs; whnf
 . first | exact bF1 ‹_› | exact bF2 ‹_› | rfl
|apply zT
 . conv => lhs; whnf
 . assumption
|apply zQ
 . conv => lhs; whnf
 . assumption
|refine zj ?_
|refine za ?_
|refine zAb ?_
|refine zB ?_
|refine zM ?_
|refine zk ?_
|refine zV ?_
|refine zd ?_
|apply aw_1
 conv => whnf
 refine ⟨?_,trivial⟩
|apply zp rfl rfl
 . conv => lhs; whnf
 . conv => lhs; whnf
 . first | exact bT1 ‹_› | exact bT2 ‹_›
|apply zo rfl rfl
 . conv => lhs; whnf
 . conv => lhs; whnf
 . first | exact bF1 ‹_› | exact bF2 ‹_›
|apply s_1
 conv => whnf; arg 1; arg 4; arg 3; whnf
 refine ⟨?_,?_⟩
|apply z7 rfl
 . conv => lhs; whnf
 . conv => lhs; whnf; arg 2; whnf
|apply zl rfl
 . conv => lhs; whnf
 . conv => lhs; whnf
 . first | fail
|apply zAV rfl rfl rfl rfl
 . conv => lhs; whnf; arg 1; whnf
 . rfl
|apply zS rfl
 . conv => lhs; whnf
 . conv => lhs; whnf
 . first | rfl | assumption
 . conv => lhs; whnf; arg 2; whnf
|apply zR rfl
 . conv => lhs; whnf
 . conv => lhs; whnf
 . first | rfl | assumption
 . conv => lhs; whnf
 . first | fail
|apply zAI rfl
 . conv => lhs; whnf
 . conv => lhs; whnf
 . first | rfl | assumption
|apply zAy rfl
 . conv => lhs; whnf
 . rfl
 . rfl
|apply zf rfl
 . conv => lhs; whnf
 . conv => lhs; whnf
 . conv => lhs; whnf; arg 2; whnf
|apply zu rfl
 . conv => lhs; whnf
 . conv => lhs; whnf
 . conv => lhs; whnf
 . first | fail
|apply zm rfl
 . conv => lhs; whnf
 . conv => lhs; whnf
 . conv => lhs; whnf; arg 2; whnf
|apply zi rfl
 . conv => lhs; whnf
 . conv => lhs; whnf
 . conv => lhs; whnf
 . first | fail
|apply zN
 . conv => lhs; whnf; arg 1; arg 1; whnf
|apply zO
 . conv => lhs; whnf; arg 1; arg 1; whnf
|refine zW (by conv => lhs; whnf) ?_ ?_ <;> intro hb
|refine zn ?_
|refine zb ?_
|refine zH ?_
|refine zL ?_
|refine zG ?_
|refine zD rfl ?_
|refine zF rfl ?_
|refine zE ?_
|refine zJ ?_
|refine zC ?_
|refine zK ?_
|refine z8 ?_
|refine zI ?_
|refine ⟨_,by conv => lhs; whnf; arg 2; whnf,?_⟩; conv => rhs; whnf
|exact trivial
|intro hg)
     all_goals first
      | exact zAN (by omega)
      | exact zBQ hi
      | (have h0 : (i : Int) > 0:=by simp_all
         exact (show 0 <= (i : Int) - 1 /\ (i : Int) - 1 < (((d.f 1).l.length : Nat) : Int) from ⟨by omega,by omega⟩))
      | (have h0 : (i : Int) > 0:=by simp_all
         exact zAN (by omega))
      | (have hN : R = wrapsI (d.f 1).l j (i + 1):=by simp_all
         exact zY (j':=j) (by omega) ⟨i + 1,by omega,hN,Sub.live ⟨rfl,rfl,trivial⟩ ⟨rfl,trivial⟩⟩)
      | skip
     all_goals
      refine congrArg (fun b => V.c (.bool b)) ?_
      clear eT f1 hi hij he
      simp_all
   . obtain rfl : j = 0:=by omega
     have f1 : decide ((i : Int) < ((d.f 1).l.length : Nat)) = false:=decide_eq_false (by omega)
     repeat' (first
|apply zT
 . conv => lhs; whnf
 . assumption
|apply zQ
 . conv => lhs; whnf
 . assumption
|refine zj ?_
|refine za ?_
|refine zAb ?_
|refine zB ?_
|refine zM ?_
|refine zk ?_
|refine zV ?_
|refine zd ?_
|apply aw_1
 conv => whnf
 refine ⟨?_,trivial⟩
|apply zp rfl rfl
 . conv => lhs; whnf
 . conv => lhs; whnf
 . first | exact bT1 ‹_› | exact bT2 ‹_›
|apply zo rfl rfl
 . conv => lhs; whnf
 . conv => lhs; whnf
 . first | exact bF1 ‹_› | exact bF2 ‹_›
|apply s_1
 conv => whnf; arg 1; arg 4; arg 3; whnf
 refine ⟨?_,?_⟩
|apply z7 rfl
 . conv => lhs; whnf
 . conv => lhs; whnf; arg 2; whnf
|apply zl rfl
 . conv => lhs; whnf
 . conv => lhs; whnf
 . first | fail
|apply zAV rfl rfl rfl rfl
 . conv => lhs; whnf; arg 1; whnf
 . rfl
|apply zS rfl
 . conv => lhs; whnf
 . conv => lhs; whnf
 . first | rfl | assumption
 . conv => lhs; whnf; arg 2; whnf
|apply zR rfl
 . conv => lhs; whnf
 . conv => lhs; whnf
 . first | rfl | assumption
 . conv => lhs; whnf
 . first | fail
|apply zA6 rfl
 . conv => lhs; whnf
 . conv => lhs; whnf
 . first | rfl | assumption
|apply zm rfl
 . conv => lhs; whnf
 . conv => lhs; whnf
 . conv => lhs; whnf; arg 2; whnf
|apply zi rfl
 . conv => lhs; whnf
 . conv => lhs; whnf
 . conv => lhs; whnf
 . first | fail
|apply zN
 . conv => lhs; whnf; arg 1; arg 1; whnf
|apply zO
 . conv => lhs; whnf; arg 1; arg 1; whnf
|refine zW (by conv => lhs; whnf) ?_ ?_ <;> intro hb
|refine zn ?_
|refine zb ?_
|refine zH ?_
|refine zL ?_
|refine zG ?_
|refine zD rfl ?_
|refine zF rfl ?_
|refine zE ?_
|refine zJ ?_
|refine zC ?_
|refine zK ?_
|refine z8 ?_
|refine zI ?_
|refine ⟨_,by conv => lhs; whnf; arg 2; whnf,?_⟩; conv => rhs; whnf
|exact trivial
|intro hg)
     rw [hR]; rfl
 . simp_all
end Go.Proofs.YtdlnnlglmifceaaGreatDoor
namespace Go.Proofs.YtdlnnlglmifceaaGreatDoor
open Go.RowKit
def zFo (d : D) : Bool:=nameB (d.f 0).s && litW (d.f 1)
def argsB8 (l : List D) : Bool:=decide (l.length <= 16) && !(l.any fun x => !zFo x)
def zFg (d : D) : Bool:=nameB (d.f 0).s && argsB8 (d.f 1).l
def dirsB8 (l : List D) : Bool:=decide (l.length <= 16) && !(l.any fun x => !zFg x)
def selB8 : Nat -> Nat -> D -> Bool
 | 0,_,_ => false
 | k + 1,lv,d => argsB8 (d.f 4).l && dirsB8 (d.f 5).l &&
   (if (d.f 0).n = 1 then noneS (d.f 3).s && nameB (d.f 2).s && (noneS (d.f 1).s || nameB (d.f 1).s) && selsR (selB8 k (lv + 1)) (d.f 6).l 0 (lv + 1)
   else if (d.f 0).n = 2 then noneS (d.f 3).s && noneS (d.f 1).s && decide ((d.f 4).l.length = 0) && decide ((d.f 6).l.length = 0) && titleR (d.f 2).s
   else if (d.f 0).n = 3 then noneS (d.f 1).s && noneS (d.f 2).s && decide ((d.f 4).l.length = 0) && (noneS (d.f 3).s || nameB (d.f 3).s) && selsR (selB8 k (lv + 1)) (d.f 6).l 1 (lv + 1)
   else false)
def setB8 (l : List D) : Bool:=selsR (selB8 (bulkL l) 1) l 1 1
def varB8 (d : D) : Bool:=nameB (d.f 0).s && refR (d.f 1) &&
 (if (d.f 2).b = true then litW (d.f 3) && bareR (bulkD (d.f 3)) (d.f 3)
 else (((d.f 3).f 0).n == 0 && ((d.f 3).f 1).n == 0 && noneS ((d.f 3).f 2).s && decide (((d.f 3).f 3).l.length = 0)) && decide (((d.f 3).f 4).l.length = 0))
def opB8 (d : D) : Bool:=decide (1 <= (d.f 0).n /\ (d.f 0).n <= 3) && (noneS (d.f 1).s || nameB (d.f 1).s) && decide ((d.f 2).l.length <= 16) && !((d.f 2).l.any fun x => !varB8 x) && setB8 (d.f 3).l
def fragB8 (d : D) : Bool:=titleR (d.f 0).s && nameB (d.f 1).s && setB8 (d.f 2).l
def nW (a b : List D) : Int:=IntKind.i64.wrap ((a.length : Int) + (b.length : Int))
def queB8 (a b : List D) : Bool:=(decide (1 <= nW a b) && decide (nW a b <= 64)) && a.all opB8 && b.all fragB8
theorem lit_nullW {v : D} (hn : (v.f 0).n = 0) : (litW v && bareR (bulkD v) v) = (((v.f 1).n == 0 && noneS (v.f 2).s && decide ((v.f 3).l.length = 0)) && decide ((v.f 4).l.length = 0)):=by
 have h:=null_valW v
 unfold nullB at h
 rw [hn] at h
 have h0 : ((0 : Int) == 0) = true:=rfl
 rw [h0,Bool.true_and,Bool.and_true] at h
 unfold noneS
 rw [h]; rfl
def zB8 (d : D) : Bool:=nameB (d.f 0).s && refR (d.f 1) && litW (d.f 3) && bareR (bulkD (d.f 3)) (d.f 3) && ((d.f 2).b || ((d.f 3).f 0).n == 0)
theorem varB8F_Q (d : D) : zB8 d = varB8 d:=by
 unfold zB8 varB8
 by_cases h : (d.f 2).b = true
 . rw [if_pos h,h]
   generalize nameB (d.f 0).s = a1
   generalize refR (d.f 1) = a2
   cases a1 <;> cases a2 <;> simp
 . have hb : (d.f 2).b = false:=by simpa using h
   rw [if_neg h,hb]
   by_cases hn : ((d.f 3).f 0).n = 0
   . have e:=lit_nullW hn
     rw [hn]
     generalize litW (d.f 3) = b1 at *
     generalize bareR (bulkD (d.f 3)) (d.f 3) = b2 at *
     have z : ((0 : Int) == 0) = true:=rfl
     rw [z]
     simp only [Bool.false_or,Bool.and_true,Bool.true_and]
     rw [Bool.and_assoc (nameB (d.f 0).s && refR (d.f 1)) b1 b2,e]
   . have : (((d.f 3).f 0).n == 0) = false:=by simpa using hn
     rw [this]
     simp
theorem le16B8 (n : Nat) : decide ((n : Int) <= 16) = decide (n <= 16):=decide_eq_decide.2 (by omega)
theorem zGh (p : D -> Bool) (l : List D) (lv : Nat) : selsR p l 0 lv = (decide (l.length = 0) || selsR p l 1 lv):=by
 unfold selsR
 cases l with
 | nil => simp
 | cons x r => simp
theorem selsB8_one (p : D -> Bool) (l : List D) (lv : Nat) : selsR p l 1 lv = (!decide (l.length = 0) && decide (l.length <= 64) && decide (lv <= 24) && allIU p l l.length 0):=by
 rw [zBg]
 unfold selsR
 cases l with
 | nil => simp
 | cons x r => simp
end Go.Proofs.YtdlnnlglmifceaaGreatDoor
namespace Go.Proofs.YtdlnnlglmifceaaGreatDoor
open Go.RowKit
set_option linter.unusedSectionVars false
theorem ac_q2 {e : Ge} {P : Program} {f : FuncId} {t u : TypeId} {a b : List D} {args : List V} {r : V} (h : a.length <= maxLen -> b.length <= maxLen -> AC e P f (.agg [.sl t a,.sl u b] :: args) r) : AC e P f (.agg [.sl t a,.sl u b] :: args) r:=
 zIK (p:=a.length <= maxLen /\ b.length <= maxLen) (fun s w us hr => by
  cases us with
  | nil => simp [relL] at hr
  | cons x us =>
    rw [relL,rel] at hr
    obtain ⟨⟨cs,-,h1⟩,-⟩:=hr
    cases hc : cs.toList with
    | nil => rw [hc] at h1; simp [relL] at h1
    | cons y ys =>
      rw [hc,relL,rel] at h1
      cases ys with
      | nil => simp [relL] at h1
      | cons z zs =>
        rw [relL,rel] at h1
        exact ⟨(h1.1.len 0).1,(h1.2.1.len 0).1⟩) fun h' => h h'.1 h'.2
attribute [local irreducible] wpList Calls Code.wp AW AWo OpOk seqK zAi zAp loopK endK AC zAC Yld Sub
attribute [local irreducible] ACB ACX absLexG YldG absLexH
end Go.Proofs.YtdlnnlglmifceaaGreatDoor
namespace Go.Proofs.YtdlnnlglmifceaaGreatDoor
open Go.RowKit
set_option linter.unusedSectionVars false
attribute [local irreducible] wpList Calls Code.wp AW AWo OpOk seqK zAi zAp loopK endK AC zAC Yld Sub
attribute [local irreducible] ACB ACX absLexG YldG absLexH
theorem zFT (a : Int) : AC EN Tryz.prog 175 [.c (.int .i64 a),.c (.int .i64 a)] (.c (.int .i64 0)):=by
 have f1 : decide (a < a) = false:=decide_eq_false (by omega)
 have f2 : decide (a > a) = false:=decide_eq_false (by omega)
 refine zh 11 Tryz.func175 rfl rfl rfl rfl ?_
 intro s w he
 repeat' (first
|apply zQ
 . conv => lhs; whnf
 . assumption
|refine zB ?_
|refine zM ?_
|refine zk ?_
|apply aw_1
 conv => whnf
 refine ⟨?_,trivial⟩
|apply s_1
 conv => whnf; arg 1; arg 4; arg 3; whnf
 refine ⟨?_,?_⟩
|refine zI ?_
|refine ⟨_,by conv => lhs; whnf; arg 2; whnf,?_⟩; conv => rhs; whnf
|exact trivial)
theorem zHX (a : ByteArray) : AC EN Tryz.prog 176 [.c (.string a),.c (.string a)] (.c (.int .i64 0)):=by
 have f1:=zGI a.toList
 have f2 : (!(Op.bytesLess a.toList a.toList || a.toList == a.toList)) = false:=by simp
 refine zh 11 Tryz.func176 rfl rfl rfl rfl ?_
 intro s w he
 repeat' (first
|apply zQ
 . conv => lhs; whnf
 . assumption
|refine zB ?_
|refine zM ?_
|refine zk ?_
|apply aw_1
 conv => whnf
 refine ⟨?_,trivial⟩
|apply s_1
 conv => whnf; arg 1; arg 4; arg 3; whnf
 refine ⟨?_,?_⟩
|refine zI ?_
|refine ⟨_,by conv => lhs; whnf; arg 2; whnf,?_⟩; conv => rhs; whnf
|exact trivial)
theorem keyK8_ac (d : D) (i : Nat) : AC EN Tryz.prog 177 [.agg (cellsV Tryz.prog 12 62 d),.c (.int .i64 (i : Int))] (.c (.string (keyK d i))):=by
 unfold keyK
 by_cases h : i < (d.f 4).l.length
 . have f1 : decide ((i : Int) < ((d.f 4).l.length : Nat)) = true:=decide_eq_true (by omega)
   rw [if_pos h]
   refine zh 15 Tryz.func177 rfl rfl rfl rfl ?_
   intro s w he
   repeat' (first
|apply zT
 . conv => lhs; whnf
 . assumption
|refine zB ?_
|refine zM ?_
|refine zk ?_
|apply aw_1
 conv => whnf
 refine ⟨?_,trivial⟩
|apply s_1
 conv => whnf; arg 1; arg 4; arg 3; whnf
 refine ⟨?_,?_⟩
|apply zAV rfl rfl rfl rfl
 . conv => lhs; whnf; arg 1; whnf
 . rfl
|refine zL ?_
|refine zI ?_
|refine ⟨_,by conv => lhs; whnf; arg 2; whnf,?_⟩; conv => rhs; whnf
|exact trivial)
   all_goals first
    | exact zBQ h
    | rfl
 . have f1 : decide ((i : Int) < ((d.f 4).l.length : Nat)) = false:=decide_eq_false (by omega)
   rw [if_neg h]
   refine zh 15 Tryz.func177 rfl rfl rfl rfl ?_
   intro s w he
   repeat' (first
|apply zQ
 . conv => lhs; whnf
 . assumption
|refine zB ?_
|refine zM ?_
|refine zk ?_
|apply aw_1
 conv => whnf
 refine ⟨?_,trivial⟩
|apply s_1
 conv => whnf; arg 1; arg 4; arg 3; whnf
 refine ⟨?_,?_⟩
|apply zAV rfl rfl rfl rfl
 . conv => lhs; whnf; arg 1; whnf
 . rfl
|refine zI ?_
|refine ⟨_,by conv => lhs; whnf; arg 2; whnf,?_⟩; conv => rhs; whnf
|exact trivial)
noncomputable def HCm8 (d : D) (i : Nat) : Vst 70:=stS 70 [(2,.bx 2 0),(3,.bx 3 0),(5,.c (.int .i64 0)),(6,.c (.int .i64 (i : Int)))] [(2,.box 62 (cellsV Tryz.prog 12 62 d)),(3,.box 62 (cellsV Tryz.prog 12 62 d))]
theorem cmp8_ac : ∀ (k : Nat) (d : D),Dp k d -> AC EN Tryz.prog 138 [.agg (cellsV Tryz.prog 12 62 d),.agg (cellsV Tryz.prog 12 62 d)] (.c (.int .i64 0))
 | 0,_,h => h.elim
 | k + 1,d,h => by
   refine zEP 2 (by kernel_rfl) fun hL => ?_
   have hl : (d.f 3).l.length <= 9223372036854775807:=(zDL hL).1
   clear hL
   have ih:=fun i (hi : i < (d.f 3).l.length) => cmp8_ac k (gD (d.f 3).l i) (h i hi)
   have h1:=zFT (d.f 0).n
   have h2:=zFT (d.f 1).n
   have h3:=zHX (d.f 2).s
   have h4:=zFT ((d.f 3).l.length : Nat)
   refine zh 70 Tryz.func138 rfl rfl rfl rfl ?_
   intro s w he
   repeat' (first
|refine zB ?_
|refine zM ?_
|refine zk ?_
|apply aw_1
 conv => whnf
 refine ⟨?_,trivial⟩
|apply s_1
 conv => whnf; arg 1; arg 4; arg 3; whnf
 refine ⟨?_,?_⟩
|apply zl rfl
 . conv => lhs; whnf
 . conv => lhs; whnf
 . first | exact h1 | exact h2 | exact h3
|apply zAV rfl rfl rfl rfl
 . conv => lhs; whnf; arg 1; whnf
 . rfl
|exact trivial)
   refine zAG (fun j st => ∃ i,i + j = (d.f 3).l.length /\ Sub (cx EN Tryz.prog s w he) st (HCm8 d i)) (d.f 3).l.length ⟨0,by omega,Sub.live ⟨rfl,rfl,rfl,rfl,trivial⟩ ⟨rfl,rfl,trivial⟩⟩ ?_
   rintro j st ⟨i,hij,hs2⟩
   refine zAF hs2 ?_
   clear hs2 h1 h2 h3
   by_cases hi : i < (d.f 3).l.length
   . have f0 : decide ((i : Int) >= ((d.f 3).l.length : Nat)) = false:=decide_eq_false (by omega)
     have k0 : (decide ((i : Int) >= ((d.f 3).l.length : Nat)) == false) = false -> False:=fun h => by rw [f0] at h; cases h
     have ih2:=ih i hi
     have hk:=keyK8_ac d i
     have hks:=zHX (keyK d i)
     repeat' (first
|apply zQ
 . conv => lhs; whnf
 . assumption
|exact (k0 ‹_›).elim
|refine zB ?_
|refine zM ?_
|refine zk ?_
|refine zV ?_
|apply aw_1
 conv => whnf
 refine ⟨?_,trivial⟩
|apply zo rfl rfl
 . conv => lhs; whnf
 . conv => lhs; whnf
 . first | exact bF1 ‹_› | exact bF2 ‹_›
|apply s_1
 conv => whnf; arg 1; arg 4; arg 3; whnf
 refine ⟨?_,?_⟩
|apply zS rfl
 . conv => lhs; whnf
 . conv => lhs; whnf
 . first | rfl | assumption
 . conv => lhs; whnf; arg 2; whnf
|apply zf rfl
 . conv => lhs; whnf
 . conv => lhs; whnf
 . conv => lhs; whnf; arg 2; whnf
|apply zw (by kernel_rfl) (by kernel_rfl)
|apply zAd
|apply zAc rfl
 . conv => lhs; whnf
 . conv => lhs; whnf; arg 2; whnf
|apply zAQ rfl
 . conv => lhs; whnf
 . conv => lhs; whnf
 . first | exact ih2 | exact hk | exact hks
|exact zX
|exact ze
|exact (1000000 : Nat)
|exact trivial
|intro hg)
     all_goals first
      | exact zAN (by omega)
      | exact zBQ hi
      | exact zY (j':=j - 1) (by omega) ⟨i + 1,by omega,Sub.live ⟨rfl,rfl,rfl,rfl,trivial⟩ ⟨rfl,rfl,trivial⟩⟩
   . have f0 : decide ((i : Int) >= ((d.f 3).l.length : Nat)) = true:=decide_eq_true (by omega)
     have k0 : (decide ((i : Int) >= ((d.f 3).l.length : Nat)) == false) = true -> False:=fun h => by rw [f0] at h; cases h
     repeat' (first
|exact (k0 ‹_›).elim
|refine zB ?_
|refine zM ?_
|refine zk ?_
|apply aw_1
 conv => whnf
 refine ⟨?_,trivial⟩
|apply zp rfl rfl
 . conv => lhs; whnf
 . conv => lhs; whnf
 . first | exact bT1 ‹_› | exact bT2 ‹_›
|apply s_1
 conv => whnf; arg 1; arg 4; arg 3; whnf
 refine ⟨?_,?_⟩
|apply zl rfl
 . conv => lhs; whnf
 . conv => lhs; whnf
 . first | exact h4
|apply zAI rfl
 . conv => lhs; whnf
 . conv => lhs; whnf
 . first | rfl | assumption
|apply zf rfl
 . conv => lhs; whnf
 . conv => lhs; whnf
 . conv => lhs; whnf; arg 2; whnf
|refine zL ?_
|refine zG ?_
|refine zK ?_
|refine zI ?_
|refine ⟨_,by conv => lhs; whnf; arg 2; whnf,?_⟩; conv => rhs; whnf
|exact trivial
|intro hg)
theorem zHa (d : D) : AC EN Tryz.prog 101 [.agg (cellsV Tryz.prog 12 62 d),.agg (cellsV Tryz.prog 12 62 d)] (.c (.bool true)):=by
 have h:=cmp8_ac _ d (zDP (bulkD d) d (Nat.le_refl _))
 refine zh 9 Tryz.func101 rfl rfl rfl rfl ?_
 intro s w he
 repeat' (first
|refine zB ?_
|refine zM ?_
|refine zk ?_
|apply aw_1
 conv => whnf
 refine ⟨?_,trivial⟩
|apply s_1
 conv => whnf; arg 1; arg 4; arg 3; whnf
 refine ⟨?_,?_⟩
|apply zl rfl
 . conv => lhs; whnf
 . conv => lhs; whnf
 . first | exact h
|apply zAV rfl rfl rfl rfl
 . conv => lhs; whnf; arg 1; whnf
 . rfl
|refine zI ?_
|refine ⟨_,by conv => lhs; whnf; arg 2; whnf,?_⟩; conv => rhs; whnf
|exact trivial)
 rfl
noncomputable def HWr8 (l : List D) (i : Nat) : Vst 26:=stS 26 [(0,.sl 3 l),(1,.sl 3 l),(5,.c (.int .i64 (i : Int)))] []
theorem wraps8_ac (l : List D) : AC EN Tryz.prog 43 [.sl 3 l,.sl 3 l] (.c (.bool true)):=by
 refine zEZ 1 fun hL => ?_
 have hl : l.length <= 9223372036854775807:=hL.1
 clear hL
 have f0 : ((l.length : Int) != (l.length : Int)) = false:=by simp
 refine zh 26 Tryz.func43 rfl rfl rfl rfl ?_
 intro s w he
 repeat' (first
|apply zQ
 . conv => lhs; whnf
 . assumption
|refine zB ?_
|refine zM ?_
|refine zk ?_
|apply aw_1
 conv => whnf
 refine ⟨?_,trivial⟩
|apply s_1
 conv => whnf; arg 1; arg 4; arg 3; whnf
 refine ⟨?_,?_⟩
|exact trivial)
 refine zAG (fun j st => ∃ i,i + j = l.length /\ Sub (cx EN Tryz.prog s w he) st (HWr8 l i)) l.length ⟨0,by omega,Sub.live ⟨rfl,rfl,rfl,trivial⟩ trivial⟩ ?_
 rintro j st ⟨i,hij,hs2⟩
 refine zAF hs2 ?_
 clear hs2
 by_cases hi : i < l.length
 . have f1 : decide ((i : Int) < (l.length : Nat)) = true:=decide_eq_true (by omega)
   have f2 : ((gD l i).n != (gD l i).n) = false:=by simp
   repeat' (first
|apply zT
 . conv => lhs; whnf
 . assumption
|apply zQ
 . conv => lhs; whnf
 . assumption
|refine zB ?_
|refine zM ?_
|refine zk ?_
|refine zV ?_
|apply aw_1
 conv => whnf
 refine ⟨?_,trivial⟩
|apply s_1
 conv => whnf; arg 1; arg 4; arg 3; whnf
 refine ⟨?_,?_⟩
|apply zw (by kernel_rfl) (by kernel_rfl)
|apply zAd
|apply zAc rfl
 . conv => lhs; whnf
 . conv => lhs; whnf; arg 2; whnf
|exact zX
|exact ze
|exact (1000000 : Nat)
|exact trivial)
   all_goals first
    | exact zAN (by omega)
    | exact zBQ hi
    | exact zY (j':=j - 1) (by omega) ⟨i + 1,by omega,Sub.live ⟨rfl,rfl,rfl,trivial⟩ trivial⟩
 . have f1 : decide ((i : Int) < (l.length : Nat)) = false:=decide_eq_false (by omega)
   repeat' (first
|apply zQ
 . conv => lhs; whnf
 . assumption
|refine zB ?_
|refine zM ?_
|refine zk ?_
|apply aw_1
 conv => whnf
 refine ⟨?_,trivial⟩
|apply s_1
 conv => whnf; arg 1; arg 4; arg 3; whnf
 refine ⟨?_,?_⟩
|refine zH ?_
|refine zD rfl ?_
|refine zC ?_
|refine zI ?_
|refine ⟨_,by conv => lhs; whnf; arg 2; whnf,?_⟩; conv => rhs; whnf
|exact trivial)
theorem zGi (d : D) : AC EN Tryz.prog 16 [.agg (cellsV Tryz.prog 12 59 d),.agg (cellsV Tryz.prog 12 59 d)] (.c (.bool true)):=by
 have h:=wraps8_ac (d.f 1).l
 have f0 : ((d.f 0).s.toList == (d.f 0).s.toList) = true:=by simp
 have k0 : (((d.f 0).s.toList == (d.f 0).s.toList) == true) = false -> False:=fun h => by rw [f0] at h; cases h
 refine zh 17 Tryz.func16 rfl rfl rfl rfl ?_
 intro s w he
 repeat' (first
|exact (k0 ‹_›).elim
|refine zB ?_
|refine zM ?_
|refine zk ?_
|apply aw_1
 conv => whnf
 refine ⟨?_,trivial⟩
|apply zp rfl rfl
 . conv => lhs; whnf
 . conv => lhs; whnf
 . first | exact bT1 ‹_› | exact bT2 ‹_›
|apply s_1
 conv => whnf; arg 1; arg 4; arg 3; whnf
 refine ⟨?_,?_⟩
|apply zAV rfl rfl rfl rfl
 . conv => lhs; whnf; arg 1; whnf
 . rfl
|apply zS rfl
 . conv => lhs; whnf
 . conv => lhs; whnf
 . first | rfl | assumption
 . conv => lhs; whnf; arg 2; whnf
|apply zR rfl
 . conv => lhs; whnf
 . conv => lhs; whnf
 . first | rfl | assumption
 . conv => lhs; whnf
 . first | exact h
|apply zf rfl
 . conv => lhs; whnf
 . conv => lhs; whnf
 . conv => lhs; whnf; arg 2; whnf
|refine zI ?_
|refine ⟨_,by conv => lhs; whnf; arg 2; whnf,?_⟩; conv => rhs; whnf
|exact trivial
|intro hg)
noncomputable def HAr8 (l : List D) (i : Nat) : Vst 42:=stS 42 [(0,.sl 68 l),(1,.sl 68 l),(5,.c (.int .i64 (i : Int)))] []
theorem zDX (l : List D) : AC EN Tryz.prog 102 [.sl 68 l,.sl 68 l] (.c (.bool true)):=by
 refine zEZ 1 fun hL => ?_
 have hl : l.length <= 9223372036854775807:=hL.1
 clear hL
 have f0 : ((l.length : Int) != (l.length : Int)) = false:=by simp
 refine zh 42 Tryz.func102 rfl rfl rfl rfl ?_
 intro s w he
 repeat' (first
|apply zQ
 . conv => lhs; whnf
 . assumption
|refine zB ?_
|refine zM ?_
|refine zk ?_
|apply aw_1
 conv => whnf
 refine ⟨?_,trivial⟩
|apply s_1
 conv => whnf; arg 1; arg 4; arg 3; whnf
 refine ⟨?_,?_⟩
|exact trivial)
 refine zAG (fun j st => ∃ i,i + j = l.length /\ Sub (cx EN Tryz.prog s w he) st (HAr8 l i)) l.length ⟨0,by omega,Sub.live ⟨rfl,rfl,rfl,trivial⟩ trivial⟩ ?_
 rintro j st ⟨i,hij,hs2⟩
 refine zAF hs2 ?_
 clear hs2
 by_cases hi : i < l.length
 . have f1 : decide ((i : Int) < (l.length : Nat)) = true:=decide_eq_true (by omega)
   have hv:=zHa ((gD l i).f 1)
   have f2 : (!(((gD l i).f 0).s.toList == ((gD l i).f 0).s.toList)) = false:=by simp
   have g2 : ((!(((gD l i).f 0).s.toList == ((gD l i).f 0).s.toList)) == false) = true:=by simp
   repeat' (first
|apply zT
 . conv => lhs; whnf
 . assumption
|refine zB ?_
|refine zM ?_
|refine zk ?_
|refine zV ?_
|apply aw_1
 conv => whnf
 refine ⟨?_,trivial⟩
|apply s_1
 conv => whnf; arg 1; arg 4; arg 3; whnf
 refine ⟨?_,?_⟩
|apply zw (by kernel_rfl) (by kernel_rfl)
|apply zAd
|apply zAY rfl rfl
 . conv => lhs; whnf
 . conv => lhs; whnf
 . first | exact bF1 ‹_› | exact bF2 ‹_›
|apply zAc rfl
 . conv => lhs; whnf
 . conv => lhs; whnf; arg 2; whnf
|apply zy rfl
 . conv => lhs; whnf
 . conv => lhs; whnf
 . first | rfl | assumption
 . conv => lhs; whnf; arg 2; whnf
|apply zt rfl
 . conv => lhs; whnf
 . conv => lhs; whnf
 . first | rfl | assumption
 . conv => lhs; whnf
 . first | exact hv
|exact zX
|exact ([] : List Nat)
|exact (1000000 : Nat)
|exact trivial)
   all_goals first
    | exact zAN (by omega)
    | exact zBQ hi
    | exact zY (j':=j - 1) (by omega) ⟨i + 1,by omega,Sub.live ⟨rfl,rfl,rfl,trivial⟩ trivial⟩
 . have f1 : decide ((i : Int) < (l.length : Nat)) = false:=decide_eq_false (by omega)
   repeat' (first
|apply zQ
 . conv => lhs; whnf
 . assumption
|refine zB ?_
|refine zM ?_
|refine zk ?_
|apply aw_1
 conv => whnf
 refine ⟨?_,trivial⟩
|apply s_1
 conv => whnf; arg 1; arg 4; arg 3; whnf
 refine ⟨?_,?_⟩
|refine zH ?_
|refine zD rfl ?_
|refine zC ?_
|refine zI ?_
|refine ⟨_,by conv => lhs; whnf; arg 2; whnf,?_⟩; conv => rhs; whnf
|exact trivial)
noncomputable def HDr8 (l : List D) (i : Nat) : Vst 42:=stS 42 [(0,.sl 129 l),(1,.sl 129 l),(5,.c (.int .i64 (i : Int)))] []
theorem zF3 (l : List D) : AC EN Tryz.prog 103 [.sl 129 l,.sl 129 l] (.c (.bool true)):=by
 refine zEZ 1 fun hL => ?_
 have hl : l.length <= 9223372036854775807:=hL.1
 clear hL
 have f0 : ((l.length : Int) != (l.length : Int)) = false:=by simp
 refine zh 42 Tryz.func103 rfl rfl rfl rfl ?_
 intro s w he
 repeat' (first
|apply zQ
 . conv => lhs; whnf
 . assumption
|refine zB ?_
|refine zM ?_
|refine zk ?_
|apply aw_1
 conv => whnf
 refine ⟨?_,trivial⟩
|apply s_1
 conv => whnf; arg 1; arg 4; arg 3; whnf
 refine ⟨?_,?_⟩
|exact trivial)
 refine zAG (fun j st => ∃ i,i + j = l.length /\ Sub (cx EN Tryz.prog s w he) st (HDr8 l i)) l.length ⟨0,by omega,Sub.live ⟨rfl,rfl,rfl,trivial⟩ trivial⟩ ?_
 rintro j st ⟨i,hij,hs2⟩
 refine zAF hs2 ?_
 clear hs2
 by_cases hi : i < l.length
 . have f1 : decide ((i : Int) < (l.length : Nat)) = true:=decide_eq_true (by omega)
   have hv:=zDX ((gD l i).f 1).l
   have f2 : (!(((gD l i).f 0).s.toList == ((gD l i).f 0).s.toList)) = false:=by simp
   have g2 : ((!(((gD l i).f 0).s.toList == ((gD l i).f 0).s.toList)) == false) = true:=by simp
   repeat' (first
|apply zT
 . conv => lhs; whnf
 . assumption
|refine zB ?_
|refine zM ?_
|refine zk ?_
|refine zV ?_
|apply aw_1
 conv => whnf
 refine ⟨?_,trivial⟩
|apply s_1
 conv => whnf; arg 1; arg 4; arg 3; whnf
 refine ⟨?_,?_⟩
|apply zw (by kernel_rfl) (by kernel_rfl)
|apply zAd
|apply zAY rfl rfl
 . conv => lhs; whnf
 . conv => lhs; whnf
 . first | exact bF1 ‹_› | exact bF2 ‹_›
|apply zAc rfl
 . conv => lhs; whnf
 . conv => lhs; whnf; arg 2; whnf
|apply zy rfl
 . conv => lhs; whnf
 . conv => lhs; whnf
 . first | rfl | assumption
 . conv => lhs; whnf; arg 2; whnf
|apply zt rfl
 . conv => lhs; whnf
 . conv => lhs; whnf
 . first | rfl | assumption
 . conv => lhs; whnf
 . first | exact hv
|exact zX
|exact ([] : List Nat)
|exact (1000000 : Nat)
|exact trivial)
   all_goals first
    | exact zAN (by omega)
    | exact zBQ hi
    | exact zY (j':=j - 1) (by omega) ⟨i + 1,by omega,Sub.live ⟨rfl,rfl,rfl,trivial⟩ trivial⟩
 . have f1 : decide ((i : Int) < (l.length : Nat)) = false:=decide_eq_false (by omega)
   repeat' (first
|apply zQ
 . conv => lhs; whnf
 . assumption
|refine zB ?_
|refine zM ?_
|refine zk ?_
|apply aw_1
 conv => whnf
 refine ⟨?_,trivial⟩
|apply s_1
 conv => whnf; arg 1; arg 4; arg 3; whnf
 refine ⟨?_,?_⟩
|refine zH ?_
|refine zD rfl ?_
|refine zC ?_
|refine zI ?_
|refine ⟨_,by conv => lhs; whnf; arg 2; whnf,?_⟩; conv => rhs; whnf
|exact trivial)
noncomputable def HSs8 (l : List D) (i : Nat) : Vst 77:=stS 77 [(0,.sl 57 l),(1,.sl 57 l),(5,.c (.int .i64 (i : Int)))] []
theorem zDW : ∀ (k : Nat) (l : List D),bulkL l <= k -> AC EN Tryz.prog 65 [.sl 57 l,.sl 57 l] (.c (.bool true)):=by
 intro k
 induction k with
 | zero =>
   intro l hw
   have hl:=zEN l
   have hn : l = []:=List.eq_nil_of_length_eq_zero (by omega)
   subst hn
   refine zh 77 Tryz.func65 rfl rfl rfl rfl ?_
   intro s w he
   repeat' (first
|refine zB ?_
|refine zM ?_
|refine zk ?_
|apply aw_1
 conv => whnf
 refine ⟨?_,trivial⟩
|apply s_1
 conv => whnf; arg 1; arg 4; arg 3; whnf
 refine ⟨?_,?_⟩
|exact trivial)
   refine zAG (fun j st => Sub (cx EN Tryz.prog s w he) st (HSs8 [] 0)) 0 (Sub.live ⟨rfl,rfl,rfl,trivial⟩ trivial) ?_
   rintro j st hs2
   refine zAF hs2 ?_
   clear hs2
   repeat' (first
|refine zB ?_
|refine zM ?_
|refine zk ?_
|apply aw_1
 conv => whnf
 refine ⟨?_,trivial⟩
|apply s_1
 conv => whnf; arg 1; arg 4; arg 3; whnf
 refine ⟨?_,?_⟩
|refine zH ?_
|refine zD rfl ?_
|refine zC ?_
|refine zI ?_
|refine ⟨_,by conv => lhs; whnf; arg 2; whnf,?_⟩; conv => rhs; whnf
|exact trivial)
 | succ k ih =>
   intro l hw
   refine zEZ 1 fun hL => ?_
   have hl : l.length <= 9223372036854775807:=hL.1
   clear hL
   have f0 : ((l.length : Int) != (l.length : Int)) = false:=by simp
   refine zh 77 Tryz.func65 rfl rfl rfl rfl ?_
   intro s w he
   repeat' (first
|apply zQ
 . conv => lhs; whnf
 . assumption
|refine zB ?_
|refine zM ?_
|refine zk ?_
|apply aw_1
 conv => whnf
 refine ⟨?_,trivial⟩
|apply s_1
 conv => whnf; arg 1; arg 4; arg 3; whnf
 refine ⟨?_,?_⟩
|exact trivial)
   refine zAG (fun j st => ∃ i,i + j = l.length /\ Sub (cx EN Tryz.prog s w he) st (HSs8 l i)) l.length ⟨0,by omega,Sub.live ⟨rfl,rfl,rfl,trivial⟩ trivial⟩ ?_
   rintro j st ⟨i,hij,hs2⟩
   refine zAF hs2 ?_
   clear hs2
   by_cases hi : i < l.length
   . have f1 : decide ((i : Int) < (l.length : Nat)) = true:=decide_eq_true (by omega)
     have b0:=zAf hi
     have b1:=zv (gD l i)
     have b4:=wD_f (gD l i) 4; have b4':=zAP ((gD l i).f 4)
     have b5:=wD_f (gD l i) 5; have b5':=zAP ((gD l i).f 5)
     have b6:=wD_f (gD l i) 6; have b6':=zAP ((gD l i).f 6)
     have h1:=zDX ((gD l i).f 4).l
     have h2:=zF3 ((gD l i).f 5).l
     have h3:=ih ((gD l i).f 6).l (by omega)
     have q0 : (((gD l i).f 0).n != ((gD l i).f 0).n) = false:=by simp
     have q : ∀ a : ByteArray,(!(a.toList == a.toList)) = false:=fun a => by simp
     have f2:=q ((gD l i).f 1).s
     have f3:=q ((gD l i).f 2).s
     have f4:=q ((gD l i).f 3).s
     have k0 : ((((gD l i).f 0).n != ((gD l i).f 0).n) == false) = false -> False:=fun h => by rw [q0] at h; cases h
     have k1 : ((!(((gD l i).f 1).s.toList == ((gD l i).f 1).s.toList)) == false) = false -> False:=fun h => by rw [f2] at h; cases h
     have k2 : ((!(((gD l i).f 2).s.toList == ((gD l i).f 2).s.toList)) == false) = false -> False:=fun h => by rw [f3] at h; cases h
     have k3 : ((!(((gD l i).f 3).s.toList == ((gD l i).f 3).s.toList)) == false) = false -> False:=fun h => by rw [f4] at h; cases h
     repeat' (first
|apply zCc ([]) ([(8,[6]),(9,[7]),(10,[6]),(11,[7])]) ([(8,6),(9,7)]) rfl (by kernel_rfl) (by kernel_rfl) (by kernel_rfl) (by intro p hp; simp only [List.mem_cons,List.not_mem_nil,or_false] at hp; rcases hp with rfl | rfl <;> (repeat' (first | exact fresh_S rfl | refine fresh_put ?_ rfl | refine fresh_res ?_ rfl rfl)))
|apply h_nil
|apply zDO rfl rfl rfl rfl
 . conv => lhs; whnf; arg 1; whnf
 . rfl
 . rfl
 . kernel_rfl
|apply h_val rfl
 . conv => lhs; whnf
 . conv => lhs; whnf; arg 2; whnf
 . kernel_rfl
|apply zDN rfl rfl rfl
 . conv => lhs; whnf
 . rfl
 . conv => lhs; whnf; arg 1; whnf
 . conv => lhs; whnf; arg 1; whnf
 . exact ⟨by kernel_rfl,by kernel_rfl⟩
 . rfl
 . kernel_rfl
|show inO _ _ = true; rfl
|apply zT
 . conv => lhs; whnf
 . assumption
|exact (k0 ‹_›).elim
|exact (k1 ‹_›).elim
|exact (k2 ‹_›).elim
|exact (k3 ‹_›).elim
|refine zB ?_
|refine zM ?_
|refine zk ?_
|refine zV ?_
|apply aw_1
 conv => whnf
 refine ⟨?_,trivial⟩
|apply zo rfl rfl
 . conv => lhs; whnf
 . conv => lhs; whnf
 . first | exact bF1 ‹_› | exact bF2 ‹_›
|apply s_1
 conv => whnf; arg 1; arg 4; arg 3; whnf
 refine ⟨?_,?_⟩
|apply zS rfl
 . conv => lhs; whnf
 . conv => lhs; whnf
 . first | rfl | assumption
 . conv => lhs; whnf; arg 2; whnf
|apply zR rfl
 . conv => lhs; whnf
 . conv => lhs; whnf
 . first | rfl | assumption
 . conv => lhs; whnf
 . first | exact h1 | exact h2 | exact h3
|apply zf rfl
 . conv => lhs; whnf
 . conv => lhs; whnf
 . conv => lhs; whnf; arg 2; whnf
|exact trivial
|intro hg)
     all_goals first
      | exact zAN (by omega)
      | exact zBQ hi
      | exact zY (j':=j - 1) (by omega) ⟨i + 1,by omega,Sub.live ⟨rfl,rfl,rfl,trivial⟩ trivial⟩
   . have f1 : decide ((i : Int) < (l.length : Nat)) = false:=decide_eq_false (by omega)
     repeat' (first
|apply zQ
 . conv => lhs; whnf
 . assumption
|refine zB ?_
|refine zM ?_
|refine zk ?_
|apply aw_1
 conv => whnf
 refine ⟨?_,trivial⟩
|apply s_1
 conv => whnf; arg 1; arg 4; arg 3; whnf
 refine ⟨?_,?_⟩
|refine zH ?_
|refine zD rfl ?_
|refine zC ?_
|refine zI ?_
|refine ⟨_,by conv => lhs; whnf; arg 2; whnf,?_⟩; conv => rhs; whnf
|exact trivial)
noncomputable def HVs8 (l : List D) (i : Nat) : Vst 69:=stS 69 [(0,.sl 64 l),(1,.sl 64 l),(5,.c (.int .i64 (i : Int)))] []
theorem zF2 (l : List D) : AC EN Tryz.prog 64 [.sl 64 l,.sl 64 l] (.c (.bool true)):=by
 refine zEZ 1 fun hL => ?_
 have hl : l.length <= 9223372036854775807:=hL.1
 clear hL
 have f0 : ((l.length : Int) != (l.length : Int)) = false:=by simp
 refine zh 69 Tryz.func64 rfl rfl rfl rfl ?_
 intro s w he
 repeat' (first
|apply zQ
 . conv => lhs; whnf
 . assumption
|refine zB ?_
|refine zM ?_
|refine zk ?_
|apply aw_1
 conv => whnf
 refine ⟨?_,trivial⟩
|apply s_1
 conv => whnf; arg 1; arg 4; arg 3; whnf
 refine ⟨?_,?_⟩
|exact trivial)
 refine zAG (fun j st => ∃ i,i + j = l.length /\ Sub (cx EN Tryz.prog s w he) st (HVs8 l i)) l.length ⟨0,by omega,Sub.live ⟨rfl,rfl,rfl,trivial⟩ trivial⟩ ?_
 rintro j st ⟨i,hij,hs2⟩
 refine zAF hs2 ?_
 clear hs2
 by_cases hi : i < l.length
 . have f1 : decide ((i : Int) < (l.length : Nat)) = true:=decide_eq_true (by omega)
   have b0:=zAf hi
   have b1:=zv (gD l i)
   have b4:=wD_f (gD l i) 1; have b4':=wD_f ((gD l i).f 1) 1; have b4'':=zAP (((gD l i).f 1).f 1); have b44:=zEN (((gD l i).f 1).f 1).l
   have b5:=wD_f (gD l i) 3; have b5':=zv ((gD l i).f 3)
   have h1:=zGi ((gD l i).f 1)
   have h2:=zHa ((gD l i).f 3)
   have f2 : (!(((gD l i).f 0).s.toList == ((gD l i).f 0).s.toList)) = false:=by simp
   have f3 : (!(((gD l i).f 2).b == ((gD l i).f 2).b)) = false:=by simp
   have g2 : ((!(((gD l i).f 0).s.toList == ((gD l i).f 0).s.toList)) == false) = true:=by simp
   have g3 : ((!(((gD l i).f 2).b == ((gD l i).f 2).b)) == false) = true:=by simp
   repeat' (first
|apply zT
 . conv => lhs; whnf
 . assumption
|refine zB ?_
|refine zM ?_
|refine zk ?_
|refine zV ?_
|apply aw_1
 conv => whnf
 refine ⟨?_,trivial⟩
|apply s_1
 conv => whnf; arg 1; arg 4; arg 3; whnf
 refine ⟨?_,?_⟩
|apply zw (by kernel_rfl) (by kernel_rfl)
|apply zAd
|apply zAY rfl rfl
 . conv => lhs; whnf
 . conv => lhs; whnf
 . first | exact bF1 ‹_› | exact bF2 ‹_›
|apply zAc rfl
 . conv => lhs; whnf
 . conv => lhs; whnf; arg 2; whnf
|apply zy rfl
 . conv => lhs; whnf
 . conv => lhs; whnf
 . first | rfl | assumption
 . conv => lhs; whnf; arg 2; whnf
|apply zt rfl
 . conv => lhs; whnf
 . conv => lhs; whnf
 . first | rfl | assumption
 . conv => lhs; whnf
 . first | exact h1 | exact h2
|exact zX
|exact ze
|exact (1000000 : Nat)
|exact trivial)
   all_goals first
    | exact zAN (by omega)
    | exact zBQ hi
    | exact (show Tryz.prog.underlying _ = some .bool by kernel_rfl)
    | exact zY (j':=j - 1) (by omega) ⟨i + 1,by omega,Sub.live ⟨rfl,rfl,rfl,trivial⟩ trivial⟩
 . have f1 : decide ((i : Int) < (l.length : Nat)) = false:=decide_eq_false (by omega)
   repeat' (first
|apply zQ
 . conv => lhs; whnf
 . assumption
|refine zB ?_
|refine zM ?_
|refine zk ?_
|apply aw_1
 conv => whnf
 refine ⟨?_,trivial⟩
|apply s_1
 conv => whnf; arg 1; arg 4; arg 3; whnf
 refine ⟨?_,?_⟩
|refine zH ?_
|refine zD rfl ?_
|refine zC ?_
|refine zI ?_
|refine ⟨_,by conv => lhs; whnf; arg 2; whnf,?_⟩; conv => rhs; whnf
|exact trivial)
noncomputable def HAk8 (a b : List D) (i : Nat) : Vst 109:=stS 109 [(2,.bx 2 0),(3,.bx 3 0),(5,.c (.int .i64 (i : Int)))] [(2,.box 25 [.sl 47 a,.sl 50 b]),(3,.box 25 [.sl 47 a,.sl 50 b])]
noncomputable def HAf8 (a b : List D) (i : Nat) : Vst 109:=stS 109 [(2,.bx 2 0),(3,.bx 3 0),(8,.c (.int .i64 (i : Int)))] [(2,.box 25 [.sl 47 a,.sl 50 b]),(3,.box 25 [.sl 47 a,.sl 50 b])]
theorem alike8_ac (a b : List D) : AC EN Tryz.prog 33 [.agg [.sl 47 a,.sl 50 b],.agg [.sl 47 a,.sl 50 b]] (.c (.bool true)):=by
 refine ac_q2 fun hla hlb => ?_
 have hla : a.length <= 9223372036854775807:=hla
 have hlb : b.length <= 9223372036854775807:=hlb
 have f0 : ((a.length : Int) != (a.length : Int)) = false:=by simp
 have f01 : ((b.length : Int) != (b.length : Int)) = false:=by simp
 have k0 : (((a.length : Int) != (a.length : Int)) == false) = false -> False:=fun h => by rw [f0] at h; cases h
 refine zh 109 Tryz.func33 rfl rfl rfl rfl ?_
 intro s w he
 repeat' (first
|apply zQ
 . conv => lhs; whnf
 . assumption
|exact (k0 ‹_›).elim
|refine zB ?_
|refine zM ?_
|refine zk ?_
|apply aw_1
 conv => whnf
 refine ⟨?_,trivial⟩
|apply zo rfl rfl
 . conv => lhs; whnf
 . conv => lhs; whnf
 . first | exact bF1 ‹_› | exact bF2 ‹_›
|apply s_1
 conv => whnf; arg 1; arg 4; arg 3; whnf
 refine ⟨?_,?_⟩
|apply zAV rfl rfl rfl rfl
 . conv => lhs; whnf; arg 1; whnf
 . rfl
|apply zS rfl
 . conv => lhs; whnf
 . conv => lhs; whnf
 . first | rfl | assumption
 . conv => lhs; whnf; arg 2; whnf
|apply zf rfl
 . conv => lhs; whnf
 . conv => lhs; whnf
 . conv => lhs; whnf; arg 2; whnf
|exact trivial
|intro hg)
 refine zAG (fun j st => ∃ i,i + j = a.length /\ Sub (cx EN Tryz.prog s w he) st (HAk8 a b i)) a.length ⟨0,by omega,Sub.live ⟨rfl,rfl,rfl,trivial⟩ ⟨rfl,rfl,trivial⟩⟩ ?_
 rintro j st ⟨i,hij,hs2⟩
 refine zAF hs2 ?_
 clear hs2
 by_cases hi : i < a.length
 . have f1 : decide ((i : Int) < (a.length : Nat)) = true:=decide_eq_true (by omega)
   have b0:=zAf hi
   have b1:=zv (gD a i)
   have b2:=wD_f (gD a i) 2; have b2':=zAP ((gD a i).f 2)
   have b3:=wD_f (gD a i) 3; have b3':=zAP ((gD a i).f 3)
   have h1:=zF2 ((gD a i).f 2).l
   have h2:=zDW _ ((gD a i).f 3).l (Nat.le_refl _)
   have q0 : (((gD a i).f 0).n != ((gD a i).f 0).n) = false:=by simp
   have q1 : (!(((gD a i).f 1).s.toList == ((gD a i).f 1).s.toList)) = false:=by simp
   have k1 : ((((gD a i).f 0).n != ((gD a i).f 0).n) == false) = false -> False:=fun h => by rw [q0] at h; cases h
   have k2 : ((!(((gD a i).f 1).s.toList == ((gD a i).f 1).s.toList)) == false) = false -> False:=fun h => by rw [q1] at h; cases h
   repeat' (first
|apply zCc ([(1,[2]),(6,[3])]) ([(10,[6]),(11,[7]),(12,[6]),(13,[7])]) ([(10,6),(11,7)]) rfl (by kernel_rfl) (by kernel_rfl) (by kernel_rfl) (by intro p hp; simp only [List.mem_cons,List.not_mem_nil,or_false] at hp; rcases hp with rfl | rfl <;> (repeat' (first | exact fresh_S rfl | refine fresh_put ?_ rfl | refine fresh_res ?_ rfl rfl)))
|apply h_nil
|apply zDO rfl rfl rfl rfl
 . conv => lhs; whnf; arg 1; whnf
 . rfl
 . rfl
 . kernel_rfl
|apply h_val rfl
 . conv => lhs; whnf
 . conv => lhs; whnf; arg 2; whnf
 . kernel_rfl
|apply zDN rfl rfl rfl
 . conv => lhs; whnf
 . rfl
 . conv => lhs; whnf; arg 1; whnf
 . conv => lhs; whnf; arg 1; whnf
 . exact ⟨by kernel_rfl,by kernel_rfl⟩
 . rfl
 . kernel_rfl
|show inO _ _ = true; rfl
|apply zT
 . conv => lhs; whnf
 . assumption
|exact (k1 ‹_›).elim
|exact (k2 ‹_›).elim
|refine zB ?_
|refine zM ?_
|refine zk ?_
|refine zV ?_
|apply aw_1
 conv => whnf
 refine ⟨?_,trivial⟩
|apply zo rfl rfl
 . conv => lhs; whnf
 . conv => lhs; whnf
 . first | exact bF1 ‹_› | exact bF2 ‹_›
|apply s_1
 conv => whnf; arg 1; arg 4; arg 3; whnf
 refine ⟨?_,?_⟩
|apply zS rfl
 . conv => lhs; whnf
 . conv => lhs; whnf
 . first | rfl | assumption
 . conv => lhs; whnf; arg 2; whnf
|apply zR rfl
 . conv => lhs; whnf
 . conv => lhs; whnf
 . first | rfl | assumption
 . conv => lhs; whnf
 . first | exact h1 | exact h2
|apply zf rfl
 . conv => lhs; whnf
 . conv => lhs; whnf
 . conv => lhs; whnf; arg 2; whnf
|exact trivial
|intro hg)
   all_goals first
    | exact zAN (by omega)
    | exact zBQ hi
    | exact zY (j':=j - 1) (by omega) ⟨i + 1,by omega,Sub.live ⟨rfl,rfl,rfl,trivial⟩ ⟨rfl,rfl,trivial⟩⟩
    | skip
 . have f1 : decide ((i : Int) < (a.length : Nat)) = false:=decide_eq_false (by omega)
   repeat' (first
|apply zQ
 . conv => lhs; whnf
 . assumption
|refine zB ?_
|refine zM ?_
|refine zk ?_
|apply aw_1
 conv => whnf
 refine ⟨?_,trivial⟩
|apply s_1
 conv => whnf; arg 1; arg 4; arg 3; whnf
 refine ⟨?_,?_⟩
|refine zH ?_
|refine zD rfl ?_
|refine zC ?_
|exact trivial)
   refine zAG (fun j st => ∃ i,i + j = b.length /\ Sub (cx EN Tryz.prog s w he) st (HAf8 a b i)) b.length ⟨0,by omega,Sub.live ⟨rfl,rfl,rfl,trivial⟩ ⟨rfl,rfl,trivial⟩⟩ ?_
   rintro j2 st2 ⟨i2,hij2,hs2⟩
   refine zAF hs2 ?_
   clear hs2
   by_cases hi2 : i2 < b.length
   . have f2 : decide ((i2 : Int) < (b.length : Nat)) = true:=decide_eq_true (by omega)
     have b0:=zAf hi2
     have b1:=zv (gD b i2)
     have b2:=wD_f (gD b i2) 2; have b2':=zAP ((gD b i2).f 2)
     have h2:=zDW _ ((gD b i2).f 2).l (Nat.le_refl _)
     have q : ∀ a : ByteArray,(!(a.toList == a.toList)) = false:=fun a => by simp
     have q1:=q ((gD b i2).f 0).s
     have q2:=q ((gD b i2).f 1).s
     have k1 : ((!(((gD b i2).f 0).s.toList == ((gD b i2).f 0).s.toList)) == false) = false -> False:=fun h => by rw [q1] at h; cases h
     have k2 : ((!(((gD b i2).f 1).s.toList == ((gD b i2).f 1).s.toList)) == false) = false -> False:=fun h => by rw [q2] at h; cases h
     repeat' (first
|apply zCc ([(1,[2]),(6,[3])]) ([(10,[9]),(11,[10]),(12,[9]),(13,[10])]) ([(10,9),(11,10)]) rfl (by kernel_rfl) (by kernel_rfl) (by kernel_rfl) (by intro p hp; simp only [List.mem_cons,List.not_mem_nil,or_false] at hp; rcases hp with rfl | rfl <;> (repeat' (first | exact fresh_S rfl | refine fresh_put ?_ rfl | refine fresh_res ?_ rfl rfl)))
|apply h_nil
|apply zDO rfl rfl rfl rfl
 . conv => lhs; whnf; arg 1; whnf
 . rfl
 . rfl
 . kernel_rfl
|apply h_val rfl
 . conv => lhs; whnf
 . conv => lhs; whnf; arg 2; whnf
 . kernel_rfl
|apply zDN rfl rfl rfl
 . conv => lhs; whnf
 . rfl
 . conv => lhs; whnf; arg 1; whnf
 . conv => lhs; whnf; arg 1; whnf
 . exact ⟨by kernel_rfl,by kernel_rfl⟩
 . rfl
 . kernel_rfl
|show inO _ _ = true; rfl
|apply zT
 . conv => lhs; whnf
 . assumption
|exact (k1 ‹_›).elim
|exact (k2 ‹_›).elim
|refine zB ?_
|refine zM ?_
|refine zk ?_
|refine zV ?_
|apply aw_1
 conv => whnf
 refine ⟨?_,trivial⟩
|apply zo rfl rfl
 . conv => lhs; whnf
 . conv => lhs; whnf
 . first | exact bF1 ‹_› | exact bF2 ‹_›
|apply s_1
 conv => whnf; arg 1; arg 4; arg 3; whnf
 refine ⟨?_,?_⟩
|apply zS rfl
 . conv => lhs; whnf
 . conv => lhs; whnf
 . first | rfl | assumption
 . conv => lhs; whnf; arg 2; whnf
|apply zR rfl
 . conv => lhs; whnf
 . conv => lhs; whnf
 . first | rfl | assumption
 . conv => lhs; whnf
 . first | exact h2
|apply zf rfl
 . conv => lhs; whnf
 . conv => lhs; whnf
 . conv => lhs; whnf; arg 2; whnf
|exact trivial
|intro hg)
     all_goals first
      | exact zAN (by omega)
      | exact zBQ hi2
      | exact zY (j':=j2 - 1) (by omega) ⟨i2 + 1,by omega,Sub.live ⟨rfl,rfl,rfl,trivial⟩ ⟨rfl,rfl,trivial⟩⟩
      | skip
   . have f2 : decide ((i2 : Int) < (b.length : Nat)) = false:=decide_eq_false (by omega)
     repeat' (first
|apply zQ
 . conv => lhs; whnf
 . assumption
|refine zB ?_
|refine zM ?_
|refine zk ?_
|apply aw_1
 conv => whnf
 refine ⟨?_,trivial⟩
|apply s_1
 conv => whnf; arg 1; arg 4; arg 3; whnf
 refine ⟨?_,?_⟩
|refine zH ?_
|refine zD rfl ?_
|refine zC ?_
|refine zI ?_
|refine ⟨_,by conv => lhs; whnf; arg 2; whnf,?_⟩; conv => rhs; whnf
|exact trivial)
theorem sameQ8_ac (a b : List D) : AC EN Tryz.prog 11 [.agg [.sl 47 a,.sl 50 b],.agg [.sl 47 a,.sl 50 b]] (.c (.bool true)):=by
 have h:=alike8_ac a b
 refine zh 8 Tryz.func11 rfl rfl rfl rfl ?_
 intro s w he
 repeat' (first
|refine zB ?_
|refine zM ?_
|refine zk ?_
|apply aw_1
 conv => whnf
 refine ⟨?_,trivial⟩
|apply s_1
 conv => whnf; arg 1; arg 4; arg 3; whnf
 refine ⟨?_,?_⟩
|apply zl rfl
 . conv => lhs; whnf
 . conv => lhs; whnf
 . first | exact h
|apply zAV rfl rfl rfl rfl
 . conv => lhs; whnf; arg 1; whnf
 . rfl
|refine zI ?_
|refine ⟨_,by conv => lhs; whnf; arg 2; whnf,?_⟩; conv => rhs; whnf
|exact trivial)
end Go.Proofs.YtdlnnlglmifceaaGreatDoor
namespace Go.Proofs.YtdlnnlglmifceaaGreatDoor
def zBG (p q : D) : Bool:=(q.f 1).s.toList == (p.f 1).s.toList && (q.f 5).s.toList == (p.f 5).s.toList
def grpI (f : D -> D) (l : List D) (p : D) : Nat -> Nat -> List D
 | 0,_ => []
 | k + 1,i => if i < l.length /\ zBG p (gD l i) = true then f (gD l i) :: grpI f l p k (i + 1) else []
theorem zFY {f : D -> D} {l : List D} {p : D} {k i : Nat} (h : ¬ (i < l.length /\ zBG p (gD l i) = true)) : grpI f l p k i = []:=by
 cases k with
 | zero => rfl
 | succ k => unfold grpI; rw [if_neg h]
theorem zFX {f : D -> D} {l : List D} {p : D} {k i : Nat} (h : i < l.length /\ zBG p (gD l i) = true) : grpI f l p (k + 1) i = f (gD l i) :: grpI f l p k (i + 1):=by
 rw [grpI,if_pos h]
theorem zG4 {f : D -> D} {l : List D} {p : D} : ∀ {k i : Nat},i <= l.length -> i + (grpI f l p k i).length <= l.length
 | 0,_,h => h
 | k + 1,i,h => by
   unfold grpI
   split
   . rename_i hc
     have:=zG4 (f:=f) (p:=p) (k:=k) (i:=i + 1) hc.1
     rw [List.length_cons]; omega
   . exact h
theorem zGj (p : D) : zBG p p = true:=by unfold zBG; simp
def sArg (name : ByteArray) (v : D) : D:=.obj [.str name,v]
def vD31 (k n : Int) (u : ByteArray) : D:=.obj [.int k,.int n,.str u,.list [],.list []]
def dD31 (name : ByteArray) (args : List D) : D:=.obj [.str name,.list args]
def sD31 (k : Int) (alias name on : ByteArray) (args dirs sels : List D) : D:=.obj [.int k,.str alias,.str name,.str on,.list args,.list dirs,.list sels]
def zBX (n : Int) : D:=dD31 ⟨#[115,116,114,101,97,109]⟩ [sArg ⟨#[108,97,98,101,108]⟩ (vD31 3 0 ⟨#[115]⟩),sArg ⟨#[105,110,105,116,105,97,108,67,111,117,110,116]⟩ (vD31 2 n ⟨#[]⟩)]
def zDe (u : ByteArray) : D:=dD31 ⟨#[100,101,102,101,114]⟩ [sArg ⟨#[108,97,98,101,108]⟩ (vD31 3 0 u)]
def zCH (sub : ByteArray -> List D -> List D) (p : D) : D:=
 sD31 1 (if (p.f 0).s.toList == (p.f 2).s.toList then ⟨#[]⟩ else (p.f 0).s) (p.f 2).s ⟨#[]⟩ (p.f 3).l
  (if (p.f 6).n = -1 then [] else [zBX (p.f 6).n]) (sub ((p.f 4).f 0).s (p.f 7).l)
def inlD (p : D) (fs : List D) : D:=sD31 3 ⟨#[]⟩ ⟨#[]⟩ (p.f 1).s [] (if (p.f 5).s.toList == [] then [] else [zDe (p.f 5).s]) fs
def zB0 (on : ByteArray) (p : D) : Bool:=(p.f 1).s.toList == on.toList && (p.f 5).s.toList == []
def selsI (f : D -> D) (on : ByteArray) (l : List D) : Nat -> Nat -> List D
 | 0,_ => []
 | k + 1,i =>
   if i < l.length then
    if zB0 on (gD l i) = true then f (gD l i) :: selsI f on l k (i + 1)
    else inlD (gD l i) (grpI f l (gD l i) l.length i) :: selsI f on l k (i + (grpI f l (gD l i) l.length i).length)
   else []
theorem zC3 {f : D -> D} {on : ByteArray} {l : List D} {k i : Nat} (h : ¬ i < l.length) : selsI f on l k i = []:=by
 cases k with
 | zero => rfl
 | succ k => unfold selsI; rw [if_neg h]
theorem zBy {f : D -> D} {on : ByteArray} {l : List D} {k i : Nat} (h : i < l.length) (hp : zB0 on (gD l i) = true) : selsI f on l (k + 1) i = f (gD l i) :: selsI f on l k (i + 1):=by
 rw [selsI,if_pos h,if_pos hp]
theorem zC2 {f : D -> D} {on : ByteArray} {l : List D} {k i : Nat} (h : i < l.length) (hp : zB0 on (gD l i) = false) : selsI f on l (k + 1) i = inlD (gD l i) (grpI f l (gD l i) l.length i) :: selsI f on l k (i + (grpI f l (gD l i) l.length i).length):=by
 rw [selsI,if_pos h,if_neg (by rw [hp]; decide)]
theorem zHv {f : D -> D} {l : List D} {i : Nat} (h : i < l.length) : 0 < (grpI f l (gD l i) l.length i).length:=by
 obtain ⟨n,hn⟩ : ∃ n,l.length = n + 1:=⟨l.length - 1,by omega⟩
 rw [hn,zFX ⟨h,zGj _⟩]
 exact Nat.succ_pos _
def pkS : Nat -> ByteArray -> List D -> List D
 | 0,_,_ => []
 | k + 1,on,l => selsI (zCH (pkS k)) on l l.length 0
def zCn (k : Int) : ByteArray:=
 if k = 1 then ⟨#[81,117,101,114,121]⟩ else if k = 2 then ⟨#[77,117,116,97,116,105,111,110]⟩ else if k = 3 then ⟨#[83,117,98,115,99,114,105,112,116,105,111,110]⟩ else ⟨#[]⟩
def zDg : D:=sD31 1 ⟨#[]⟩ ⟨#[95,95,116,121,112,101,110,97,109,101]⟩ ⟨#[]⟩ [] [dD31 ⟨#[115,107,105,112]⟩ [sArg ⟨#[105,102]⟩ (vD31 1 1 ⟨#[]⟩)]] []
def largeB : Nat -> List D -> Bool
 | 0,_ => true
 | k + 1,l => decide (60 < l.length) || l.any fun p => decide (0 < (p.f 7).l.length) && largeB k (p.f 7).l
def CpV : Nat -> D -> Prop
 | 0,_ => False
 | k + 1,d => (d.f 3).l.length <= 1759218604441 /\ (d.f 4).l.length <= 8796093022207 /\ ∀ i,i < (d.f 3).l.length -> CpV k (gD (d.f 3).l i)
def CpA (l : List D) : Prop:=l.length <= 1466015503700 /\ ∀ i,i < l.length -> ∃ k,CpV k ((gD l i).f 1)
def CpP : Nat -> List D -> Prop
 | 0,l => l = []
 | k + 1,l => l.length <= 60 /\ ∀ i,i < l.length -> CpA ((gD l i).f 3).l /\ CpP k ((gD l i).f 7).l
theorem zEp {k : Nat} {l : List D} (h : largeB (k + 1) l = false) : l.length <= 60 /\ ∀ i,i < l.length -> ((gD l i).f 7).l = [] \/ largeB k ((gD l i).f 7).l = false:=by
 unfold largeB at h
 rw [Bool.or_eq_false_iff] at h
 refine ⟨by have:=of_decide_eq_false h.1; omega,fun i hi => ?_⟩
 have:=List.any_eq_false.1 h.2 (gD l i) (by rw [zBd hi]; exact List.getElem_mem hi)
 rw [Bool.and_eq_true] at this
 by_cases he : 0 < ((gD l i).f 7).l.length
 . right
   cases hb : largeB k ((gD l i).f 7).l with
   | false => rfl
   | true => exact (this ⟨decide_eq_true he,hb⟩).elim
 . left
   exact List.length_eq_zero_iff.1 (by omega)
theorem cpP_of : ∀ (k : Nat) (l : List D),(l = [] \/ largeB k l = false) -> bulkL l <= 1000000000 -> CpP k l:=by
 have hv : ∀ (n : Nat) (d : D),bulkD d <= n -> n <= 1000000000 -> CpV n d:=by
  intro n
  induction n with
  | zero => intro d h _; have:=zBB d; omega
  | succ n ih =>
    intro d h hn
    have h0:=zv d
    have h3:=wD_f d 3
    have h3':=zAP (d.f 3)
    have h4:=wD_f d 4
    have h4':=zAP (d.f 4)
    have l3:=zA0 (d.f 3).l
    have l4:=zA0 (d.f 4).l
    exact ⟨by omega,by omega,fun i hi => ih _ (by have:=zAf hi; omega) (by omega)⟩
 have ha : ∀ (l : List D),bulkL l <= 1000000000 -> CpA l:=fun l h => ⟨by have:=zA0 l; omega,fun i hi => ⟨_,hv _ _ (Nat.le_refl _) (by
  have h1:=zAf hi
  have h2:=wD_f (gD l i) 1
  have h3:=zv (gD l i)
  have h4:=zv ((gD l i).f 1)
  omega)⟩⟩
 intro k
 induction k with
 | zero => intro l h _; rcases h with h | h; exact h; cases h
 | succ k ih =>
   intro l h hb
   rcases h with rfl | h
   . exact ⟨by simp,fun i hi => absurd hi (Nat.not_lt_zero i)⟩
   . obtain ⟨h1,h2⟩:=zEp h
     refine ⟨h1,fun i hi => ?_⟩
     have g:=zAf hi
     have q3:=wD_f (gD l i) 3
     have q3':=zAP ((gD l i).f 3)
     have q7:=wD_f (gD l i) 7
     have q7':=zAP ((gD l i).f 7)
     have q:=zv (gD l i)
     exact ⟨ha _ (by omega),ih _ (h2 i hi) (by omega)⟩
def anyRef : D:=.obj [.str ⟨#[95,65,110,121]⟩,.list [.int 1,.int 2,.int 1]]
def nullV : D:=.obj [.int 0,.int 0,.str ⟨#[]⟩,.list [],.list []]
def zBZ : D:=.obj [.str ⟨#[114]⟩,anyRef,.bool false,nullV]
def entS (sels : List D) : D:=sD31 1 ⟨#[]⟩ ⟨#[95,101,110,116,105,116,105,101,115]⟩ ⟨#[]⟩ [sArg ⟨#[114,101,112,114,101,115,101,110,116,97,116,105,111,110,115]⟩ (vD31 7 0 ⟨#[114]⟩)] [] sels
def opSels (n : Nat) (kind : Int) (l : List D) : List D:=if l = [] then [zDg] else pkS n (zCn kind) l
end Go.Proofs.YtdlnnlglmifceaaGreatDoor
namespace Go.Proofs.YtdlnnlglmifceaaGreatDoor
open Go.RowKit
attribute [local irreducible] wpList Calls Code.wp AW AWo OpOk seqK zAi zAp loopK endK endKB AC ACB zAC absLexG Yld YldG Sub
def lfV (d : D) : List V:=[.c (.int .i64 (d.f 0).n),.c (.int .i64 (d.f 1).n),.c (.string (d.f 2).s),.c (.slice none 0 0),.c (.slice none 0 0)]
theorem zHl (k n : Int) (u : ByteArray) : VLe (.agg (lfV (vD31 k n u))) (.agg (cellsV Tryz.prog 12 62 (vD31 k n u))):=
 .agg (.cons (.refl _) (.cons (.refl _) (.cons (.refl _) (.cons (.nil _) (.cons (.nil _) .nil)))))
section
variable (E0 : Ge)
theorem textR_raw (s : ByteArray) : AC E0 Tryz.prog 107 [.c (.string s)] (.agg (lfV (vD31 3 0 s))):=by
 refine zh 5 Tryz.func107 rfl rfl rfl rfl ?_
 intro w0 w he
 repeat' (first
|refine zIH ?_
|refine zB ?_
|refine zM ?_
|refine zk ?_
|refine zV ?_
|refine zd ?_
|refine zFm ?_
|refine zHG ?_
|refine zFl ?_
|refine zFk ?_
|apply z7 rfl
 . conv => lhs; whnf
 . conv => lhs; whnf; arg 2; whnf
|apply zr rfl rfl rfl rfl
 . conv => lhs; whnf; arg 1; whnf
 . rfl
|apply zq rfl rfl rfl
 . conv => lhs; whnf
 . conv => lhs; whnf; arg 1; whnf
 . conv => lhs; whnf; arg 1; whnf
 . exact ⟨by kernel_rfl,by kernel_rfl⟩
 . rfl
|apply zN
 . conv => lhs; whnf; arg 1; arg 1; whnf
|apply zO
 . conv => lhs; whnf; arg 1; arg 1; whnf
|refine zW (by conv => lhs; whnf) ?_ ?_ <;> intro hb
|refine zn ?_
|refine zb ?_
|refine zH ?_
|refine zL ?_
|refine zG ?_
|refine zD rfl ?_
|refine zF rfl ?_
|refine zE ?_
|refine zJ ?_
|refine zC ?_
|refine zK ?_
|refine z8 ?_
|refine zI ?_
|refine ⟨_,by conv => lhs; whnf; arg 2; whnf,?_⟩; conv => rhs; whnf
|exact trivial
|intro hg)
 rfl
theorem zHW (s : ByteArray) : AC E0 Tryz.prog 107 [.c (.string s)] (.agg (cellsV Tryz.prog 12 62 (vD31 3 0 s))):=(textR_raw E0 s).res (zHl _ _ _)
noncomputable def fdrV (sub : ByteArray -> List D -> List D) (p : D) : V:=
 .agg [.c (.int .i64 1),.c (.string (if (p.f 0).s.toList == (p.f 2).s.toList then ⟨#[]⟩ else (p.f 0).s)),.c (.string (p.f 2).s),.c (.string ⟨#[]⟩),.sl 68 (p.f 3).l,
  if (p.f 6).n = -1 then .c (.slice none 0 0) else .sl 129 [zBX (p.f 6).n],if 0 < (p.f 7).l.length then .sl 57 (sub ((p.f 4).f 0).s (p.f 7).l) else .c (.slice none 0 0)]
theorem zDc (sub : ByteArray -> List D -> List D) (p : D) {b0 b1 b2 : Bool} (h0 : (!(p.f 0).s.toList == (p.f 2).s.toList) = b0) (h1 : ((p.f 6).n != -1) = b1) (h2 : decide (((p.f 7).l.length : Int) > 0) = b2) :
 fdrV sub p = .agg [.c (.int .i64 1),.c (.string (bif b0 then (p.f 0).s else ⟨#[]⟩)),.c (.string (p.f 2).s),.c (.string ⟨#[]⟩),.sl 68 (p.f 3).l,
  bif b1 then .sl 129 [zBX (p.f 6).n] else .c (.slice none 0 0),bif b2 then .sl 57 (sub ((p.f 4).f 0).s (p.f 7).l) else .c (.slice none 0 0)]:=by
 subst h0 h1 h2
 unfold fdrV
 cases hA : ((p.f 0).s.toList == (p.f 2).s.toList) <;> by_cases hB : (p.f 6).n = -1 <;> by_cases hC : 0 < (p.f 7).l.length <;> first
  | (simp [hB,hC,bne]; done)
  | (have hB2 : ((p.f 6).n == -1) = false:=by simpa using hB
     simp [hB,hC,bne,hB2]; done)
theorem fieldR_raw (sub : ByteArray -> List D -> List D) (p : D) (hn : (p.f 7).l.length <= 1000000)
 (hs : 0 < (p.f 7).l.length -> AC E0 Tryz.prog 71 [.c (.string ((p.f 4).f 0).s),.sl 82 (p.f 7).l] (.sl 57 (sub ((p.f 4).f 0).s (p.f 7).l))) :
 AC E0 Tryz.prog 106 [.agg (cellsV Tryz.prog 12 82 p)] (fdrV sub p):=by
 have ht:=zHW E0 ⟨#[115]⟩
 have hs2:=fun (h : decide (((p.f 7).l.length : Int) > 0) = true) => hs (by have:=of_decide_eq_true h; omega)
 refine zh 42 Tryz.func106 rfl rfl rfl (by unfold fdrV; by_cases h1 : (p.f 6).n = -1 <;> by_cases h2 : 0 < (p.f 7).l.length <;> simp only [h1,h2,if_true,if_false] <;> rfl) ?_
 intro w0 w he
 repeat' (first
|apply zEr (.agg (cellsV Tryz.prog 12 68 (sArg ⟨#[105,110,105,116,105,97,108,67,111,117,110,116]⟩ (vD31 2 (p.f 6).n ⟨#[]⟩)))) rfl rfl
 . conv => lhs; whnf; arg 2; whnf
 . repeat' (first | exact VLe.refl _ | exact VLe.nil _ | exact VLe.lit _ _ | exact VLe.own _ _ _ | apply VLe.agg | apply VLeL.cons | exact VLeL.nil)
|apply zEr (.agg (cellsV Tryz.prog 12 129 (zBX (p.f 6).n))) rfl rfl
 . conv => lhs; whnf; arg 2; whnf
 . repeat' (first | exact VLe.refl _ | exact VLe.nil _ | exact VLe.lit _ _ | exact VLe.own _ _ _ | apply VLe.agg | apply VLeL.cons | exact VLeL.nil)
|apply zBC 11 ([(3,[1])]) ([(10,[3])]) rfl (by kernel_rfl) (by kernel_rfl) (by kernel_rfl)
|apply zFa
|apply zFZ rfl
 . conv => lhs; whnf
 . conv => lhs; whnf; arg 2; whnf
|apply zC8 rfl
 . conv => lhs; whnf
 . conv => lhs; whnf
 . first | exact ht | exact hs2 ‹_›
|apply zFb rfl rfl
 . conv => lhs; whnf
 . first | (conv => lhs; whnf; arg 1; whnf)
 . first | exact fun _ => rfl | (intro _; kernel_rfl)
 . conv => lhs; whnf
 . rfl
 . conv => lhs; whnf; arg 1; whnf
 . conv => lhs; whnf
|apply zB3 rfl rfl rfl
 . conv => lhs; whnf
 . rfl
 . conv => lhs; whnf; arg 1; whnf
 . conv => lhs; whnf; arg 1; whnf
 . exact ⟨by kernel_rfl,by kernel_rfl⟩
 . rfl
|show inO _ _ = true; rfl
|apply g_lit [sArg ⟨#[108,97,98,101,108]⟩ (vD31 3 0 ⟨#[115]⟩),sArg ⟨#[105,110,105,116,105,97,108,67,111,117,110,116]⟩ (vD31 2 (p.f 6).n ⟨#[]⟩)] rfl rfl
 . conv => lhs; whnf
 . first | (conv => lhs; whnf; arg 1; whnf)
 . rfl
 . rfl
 . repeat' (first | exact trivial | apply And.intro | rfl)
|apply g_lit [zBX (p.f 6).n] rfl rfl
 . conv => lhs; whnf
 . first | (conv => lhs; whnf; arg 1; whnf)
 . rfl
 . rfl
 . repeat' (first | exact trivial | apply And.intro | rfl)
|refine zIH ?_
|refine zB ?_
|refine zM ?_
|refine zk ?_
|refine zV ?_
|refine zd ?_
|refine zFm ?_
|refine zHG ?_
|refine zFl ?_
|refine zFk ?_
|apply z7 rfl
 . conv => lhs; whnf
 . conv => lhs; whnf; arg 2; whnf
|apply zl rfl
 . conv => lhs; whnf
 . conv => lhs; whnf
 . first | exact ht | exact hs2 ‹_›
|apply zAV rfl rfl rfl rfl
 . conv => lhs; whnf; arg 1; whnf
 . rfl
|apply zr rfl rfl rfl rfl
 . conv => lhs; whnf; arg 1; whnf
 . rfl
|apply zq rfl rfl rfl
 . conv => lhs; whnf
 . conv => lhs; whnf; arg 1; whnf
 . conv => lhs; whnf; arg 1; whnf
 . exact ⟨by kernel_rfl,by kernel_rfl⟩
 . rfl
|apply zAU rfl rfl
 . conv => lhs; whnf
 . first | (conv => lhs; whnf; arg 1; whnf)
|apply zAT rfl rfl
 . conv => lhs; whnf
 . first | (conv => lhs; whnf; arg 1; whnf)
 . conv => lhs; whnf; arg 1; whnf
 . rfl
 . rfl
|apply zw (by kernel_rfl) (by kernel_rfl)
|apply zAd
|apply zAc rfl
 . conv => lhs; whnf
 . conv => lhs; whnf; arg 2; whnf
|apply zAQ rfl
 . conv => lhs; whnf
 . conv => lhs; whnf
 . first | exact ht | exact hs2 ‹_›
|apply zAD rfl rfl rfl
 . conv => lhs; whnf
 . rfl
 . rfl
 . conv => lhs; whnf; arg 1; whnf
 . conv => lhs; whnf; arg 1; whnf
 . exact ⟨by kernel_rfl,by kernel_rfl⟩
 . rfl
|apply zAa rfl rfl
 . conv => lhs; whnf
 . first | (conv => lhs; whnf; arg 1; whnf)
|apply zAZ rfl rfl
 . conv => lhs; whnf
 . first | (conv => lhs; whnf; arg 1; whnf)
 . conv => lhs; whnf; arg 1; whnf
 . rfl
 . rfl
|exact zX
|exact ze
|exact all_nil
|show List.all _ _ = true; rfl
|show zAB _ _ = true; rfl
|exact ([] : List Nat)
|exact (1000000 : Nat)
|apply zN
 . conv => lhs; whnf; arg 1; arg 1; whnf
|apply zO
 . conv => lhs; whnf; arg 1; arg 1; whnf
|refine zW (by conv => lhs; whnf) ?_ ?_ <;> intro hb
|refine zn ?_
|refine zb ?_
|refine zH ?_
|refine zL ?_
|refine zG ?_
|refine zD rfl ?_
|refine zF rfl ?_
|refine zE ?_
|refine zJ ?_
|refine zC ?_
|refine zK ?_
|refine z8 ?_
|refine zI ?_
|refine ⟨_,by conv => lhs; whnf; arg 2; whnf,?_⟩; conv => rhs; whnf
|exact trivial
|intro hg)
 all_goals first
  | (rw [zDc (b0:=true) (b1:=true) (b2:=true) sub p ‹_› ‹_› ‹_›]; rfl)
  | (rw [zDc (b0:=true) (b1:=true) (b2:=false) sub p ‹_› ‹_› ‹_›]; rfl)
  | (rw [zDc (b0:=true) (b1:=false) (b2:=true) sub p ‹_› ‹_› ‹_›]; rfl)
  | (rw [zDc (b0:=true) (b1:=false) (b2:=false) sub p ‹_› ‹_› ‹_›]; rfl)
  | (rw [zDc (b0:=false) (b1:=true) (b2:=true) sub p ‹_› ‹_› ‹_›]; rfl)
  | (rw [zDc (b0:=false) (b1:=true) (b2:=false) sub p ‹_› ‹_› ‹_›]; rfl)
  | (rw [zDc (b0:=false) (b1:=false) (b2:=true) sub p ‹_› ‹_› ‹_›]; rfl)
  | (rw [zDc (b0:=false) (b1:=false) (b2:=false) sub p ‹_› ‹_› ‹_›]; rfl)
end
end Go.Proofs.YtdlnnlglmifceaaGreatDoor
namespace Go.Proofs.YtdlnnlglmifceaaGreatDoor
open Go.RowKit
attribute [local irreducible] wpList Calls Code.wp
section
variable {X : Cx} {nn : Nat} {st : Vst nn} {ops : Array Oper} {o : Oper} {l : List Oper} {Q : Vst nn -> Prop} {d : Option Tmp} {k : Nat} {fr rd wr : Nat -> List Nat}
theorem h_call {f : FuncId} {args : List V} {r : V} (hg : o.guard = none) (hd : o.dst = d) (h : act1 X.P st.rs (ev st) o.op = .call f args) (hc : AC X.e X.P f (outL args) r) (hf : nfB (fr k) r [] = true) (hK : absLexH X ops fr rd wr Q (k + 1) l (st.put d r)) : absLexH X ops fr rd wr Q k (o :: l) st:=
 ⟨r,[],.old (.inl ⟨by simp [gw,hg],.call h hc⟩) hf,by rw [hd]; exact hK⟩
end
end Go.Proofs.YtdlnnlglmifceaaGreatDoor
namespace Go.Proofs.YtdlnnlglmifceaaGreatDoor
open Go.RowKit
set_option linter.unusedSectionVars false
theorem at31 {i n : Nat} (h : i < n) : 0 <= (i : Int) /\ (i : Int) < (n : Int):=⟨Int.natCast_nonneg i,Int.ofNat_lt.2 h⟩
theorem zHC : Tryz.prog.cellsOf 9 = 1:=by kernel_rfl
theorem zHx {s : Sg} {w w' : World} (hfx : ∀ b o,s.F b o -> (w.cell? ⟨b,o,none⟩).isSome) (hb : Below w.heap.size w w') : ∀ b o,s.F b o -> w'.cell? ⟨b,o,none⟩ = w.cell? ⟨b,o,none⟩:=fun b o hF => by
 obtain ⟨x,hx⟩:=Option.isSome_iff_exists.1 (hfx b o hF)
 exact hb.cell (p:=⟨b,o,none⟩) (block_lt_of_cell hx)
theorem cloneS_ac (E0 : Ge) (l : List D) (hl : l.length * 16 <= 140737488355328) : AC E0 Tryz.prog 179 [.sl 9 l] (.sl 9 l):=by
 intro s w us hus hfx he
 obtain ⟨u,rfl,h⟩:=zD2 hus
 rw [rel] at h
 obtain ⟨k,A,c,rfl,h2,h3,h4,h5⟩:=h
 have hcl:=zHC
 cases A with
 | none =>
   have h0 : l.length = 0:=by have:=h4 rfl; omega
   refine (Tryz.slices_Clone_string_nil l.length c w).mono ?_
   rintro e w' ⟨rfl,rfl⟩
   refine ⟨_,s.F,rfl,Frm.refl _ _,Keeps.refl,hfx,fun _ _ _ h => h,?_⟩
   rw [rel]
   exact ⟨1,none,0,by rw [h0],by omega,by decide,fun _ => rfl,fun h => by omega⟩
 | some a =>
   by_cases h0 : l.length = 0
   . rw [h0]
     refine (Tryz.slices_Clone_string_zero a c w).mono ?_
     rintro e w' ⟨v',rfl,hown,hne,hb⟩
     obtain ⟨-,⟨rfl,-⟩ | ⟨g,cap,cur,rfl,q1,q2,q3,q4,q5,q6⟩⟩:=hown
     . exact (hne rfl).elim
     . have hc:=zHx hfx hb
       refine ⟨_,s.F,rfl,Frm.of_below hb,fun b o hF => ⟨hc b o hF,hF⟩,fun b o hF => by rw [hc b o hF]; exact hfx b o hF,fun _ _ _ h => h,?_⟩
       rw [rel]
       exact ⟨1,_,cap,by rw [h0],by omega,q4,(fun h => by cases h),fun h => by omega⟩
   . obtain ⟨b,off,e1,hi⟩:=h5 (by omega) (by rw [hcl]; omega)
     cases e1
     have hst : ∀ i,i < l.length -> w.cell? ⟨b,off + i,none⟩ = some (.string (gD l i).s) /\ (gD l i).s.size <= maxLen:=fun i hil => by
      obtain ⟨ys,y1,y2,y3⟩:=hi i hil
      cases k with
      | zero => exact y3.elim
      | succ k =>
        unfold RepF at y3
        rw [show Tryz.prog.underlying 9 = some .string by kernel_rfl] at y3
        obtain ⟨rfl,y4⟩:=y3
        have:=(y2 0 _ rfl).1
        rw [hcl] at this
        exact ⟨by simpa using this,y4⟩
     refine (Tryz.slices_Clone_string b off l.length c (l.map (·.s)) w (by simp) hl (fun j hj => by
      rw [List.length_map] at hj
      rw [(hst j hj).1,List.getD_eq_getElem?_getD,List.getElem?_map,List.getElem?_eq_getElem hj,zBd hj]
      rfl)).mono ?_
     rintro e w' ⟨v',rfl,hown,hne,hb⟩
     obtain ⟨-,⟨rfl,-⟩ | ⟨g,cap,cur,rfl,q1,q2,q3,q4,q5,q6⟩⟩:=hown
     . exact (hne rfl).elim
     . have hc:=zHx hfx hb
       have hcell : ∀ i,i < l.length -> w'.cell? ⟨g,i,none⟩ = some (.string (gD l i).s):=fun i hil => by
        have hx : (cur.toList.take (l.length * 1))[i]? = some (.string (gD l i).s):=by
         rw [q6]
         simp [List.getElem?_map,List.getElem?_eq_getElem hil,zBd hil,hil]
        rw [List.getElem?_take] at hx
        have hx : cur.toList[i]? = some (.string (gD l i).s):=by rw [if_pos (by omega)] at hx; exact hx
        have hx : cur[i]? = some (.string (gD l i).s):=by simpa using hx
        simp [World.cell?,q2,hx]
       refine ⟨_,fun b o => s.F b o \/ (b = g /\ o < l.length),rfl,Frm.of_below hb,fun b o hF => ⟨hc b o hF,.inl hF⟩,?_,?_,?_⟩
       . rintro b o (hF | ⟨rfl,ho⟩)
         . rw [hc b o hF]; exact hfx b o hF
         . rw [hcell o ho]; rfl
       . rintro b o hbl (hF | ⟨rfl,ho⟩)
         . exact hF
         . omega
       . rw [rel]
         refine ⟨1,_,cap,rfl,by omega,q4,(fun h => by cases h),fun _ _ => ⟨g,0,rfl,fun i hil => ⟨[.string (gD l i).s],hcl.symm,fun j u hj => ?_,?_⟩⟩⟩
         . rw [hcl]
           obtain rfl : j = 0:=by
            cases j with
            | zero => rfl
            | succ j => simp at hj
           simp at hj
           subst hj
           refine ⟨?_,.inr ⟨rfl,by omega⟩⟩
           have:=hcell i hil
           simpa using this
         . unfold RepF
           rw [show Tryz.prog.underlying 9 = some .string by kernel_rfl]
           exact ⟨rfl,(hst i hil).2⟩
attribute [local irreducible] wpList Calls Code.wp AW AWo OpOk seqK zAi zAp loopK endK AC zAC Yld Sub
attribute [local irreducible] ACB ACX absLexG YldG absLexH
theorem zCZ : zAX Tryz.prog 60 = some (62,80):=by kernel_rfl
noncomputable def HCp (l : List D) (i : Nat) : Vst 19:=stS 19 [(3,.own 3 62 (l.take i)),(6,.sl 62 l),(7,.c (.int .i64 (l.length : Nat))),(8,.c (.int .i64 (i : Int)))] [(3,.tok 62 (l.take i).length)]
theorem copies_of (E0 : Ge) (l : List D) (hl : l.length <= 1759218604441) (hc : ∀ i,i < l.length -> AC E0 Tryz.prog 139 [.agg (cellsV Tryz.prog 12 62 (gD l i))] (.agg (cellsV Tryz.prog 12 62 (gD l i)))) :
 AC E0 Tryz.prog 178 [.sl 62 l] (.sl 62 l):=by
 refine zh 19 Tryz.func178 rfl rfl rfl rfl ?_
 intro s w he
 repeat' (first
|refine zB ?_
|refine zM ?_
|refine zk ?_
|refine zV ?_
|refine zd ?_
|apply aw_1
 conv => whnf
 refine ⟨?_,trivial⟩
|apply s_1
 conv => whnf; arg 1; arg 4; arg 3; whnf
 refine ⟨?_,?_⟩
|apply z7 rfl
 . conv => lhs; whnf
 . conv => lhs; whnf; arg 2; whnf
|apply zl rfl
 . conv => lhs; whnf
 . conv => lhs; whnf
 . first | fail
|apply zr rfl rfl rfl rfl
 . conv => lhs; whnf; arg 1; whnf
 . rfl
|apply zq rfl rfl rfl
 . conv => lhs; whnf
 . conv => lhs; whnf; arg 1; whnf
 . conv => lhs; whnf; arg 1; whnf
 . exact ⟨by kernel_rfl,by kernel_rfl⟩
 . rfl
|apply zAu rfl rfl
 . conv => lhs; whnf
 . first | (conv => lhs; whnf; arg 1; whnf)
 . first | exact fun _ => rfl | (intro _; kernel_rfl)
 . conv => lhs; whnf
 . conv => lhs; whnf; arg 1; whnf
 . conv => lhs; whnf
|apply zx rfl rfl rfl rfl
 . first | (conv => lhs; whnf; arg 1; whnf)
 . first | exact fun _ => rfl | (intro _; kernel_rfl)
 . conv => lhs; whnf
 . conv => lhs; whnf
|apply zAU rfl rfl
 . conv => lhs; whnf
 . first | (conv => lhs; whnf; arg 1; whnf)
|apply zAT rfl rfl
 . conv => lhs; whnf
 . first | (conv => lhs; whnf; arg 1; whnf)
 . conv => lhs; whnf; arg 1; whnf
 . rfl
 . rfl
|apply zAO rfl rfl
 . conv => lhs; whnf
 . first | (conv => lhs; whnf; arg 1; whnf)
 . first | exact fun _ => rfl | (intro _; kernel_rfl)
 . conv => lhs; whnf
 . conv => lhs; whnf
|apply zN
 . conv => lhs; whnf; arg 1; arg 1; whnf
|apply zO
 . conv => lhs; whnf; arg 1; arg 1; whnf
|refine zW (by conv => lhs; whnf) ?_ ?_ <;> intro hb
|refine zn ?_
|refine zb ?_
|refine zH ?_
|refine zL ?_
|refine zG ?_
|refine zD rfl ?_
|refine zF rfl ?_
|refine zE ?_
|refine zJ ?_
|refine zC ?_
|refine zK ?_
|refine z8 ?_
|refine zI ?_
|refine ⟨_,by conv => lhs; whnf; arg 2; whnf,?_⟩; conv => rhs; whnf
|exact trivial
|intro hg)
 refine zAF (Sub.own (t:=3) (e:=62) rfl rfl) ?_
 refine zAG (fun j st => ∃ i,i + j = l.length /\ Sub (cx E0 Tryz.prog s w he) st (HCp l i)) l.length ⟨0,by omega,Sub.live ⟨rfl,rfl,rfl,rfl,trivial⟩ ⟨rfl,trivial⟩⟩ ?_
 rintro j st ⟨i,hij,hs2⟩
 refine zAF hs2 ?_
 clear hs2
 by_cases hi : i < l.length
 . have f0 : decide ((i : Int) < (l.length : Nat)) = true:=decide_eq_true (by omega)
   have h1:=hc i hi
   have htk : (l.take i).length = i:=by rw [List.length_take]; omega
   repeat' (first
|apply zA2 [gD l i] rfl rfl
 . conv => lhs; whnf
 . first | exact zCZ | (conv => lhs; whnf; arg 1; whnf)
 . rfl
 . rfl
 . repeat' (first | exact trivial | apply And.intro | rfl)
|apply zT
 . conv => lhs; whnf
 . assumption
|apply zQ
 . conv => lhs; whnf
 . assumption
|refine zj ?_
|refine za ?_
|refine zAb ?_
|refine zB ?_
|refine zM ?_
|refine zk ?_
|refine zV ?_
|refine zd ?_
|apply aw_1
 conv => whnf
 refine ⟨?_,trivial⟩
|apply s_1
 conv => whnf; arg 1; arg 4; arg 3; whnf
 refine ⟨?_,?_⟩
|apply z7 rfl
 . conv => lhs; whnf
 . conv => lhs; whnf; arg 2; whnf
|apply zl rfl
 . conv => lhs; whnf
 . conv => lhs; whnf
 . first | exact h1
|apply zr rfl rfl rfl rfl
 . conv => lhs; whnf; arg 1; whnf
 . rfl
|apply zq rfl rfl rfl
 . conv => lhs; whnf
 . conv => lhs; whnf; arg 1; whnf
 . conv => lhs; whnf; arg 1; whnf
 . exact ⟨by kernel_rfl,by kernel_rfl⟩
 . rfl
|apply zAu rfl rfl
 . conv => lhs; whnf
 . first | exact zCZ | (conv => lhs; whnf; arg 1; whnf)
 . first | exact fun _ => rfl | (intro _; kernel_rfl)
 . conv => lhs; whnf
 . conv => lhs; whnf; arg 1; whnf
 . conv => lhs; whnf
|apply zx rfl rfl rfl rfl
 . first | exact zCZ | (conv => lhs; whnf; arg 1; whnf)
 . first | exact fun _ => rfl | (intro _; kernel_rfl)
 . conv => lhs; whnf
 . conv => lhs; whnf
|apply zAU rfl rfl
 . conv => lhs; whnf
 . first | exact zCZ | (conv => lhs; whnf; arg 1; whnf)
|apply zAT rfl rfl
 . conv => lhs; whnf
 . first | exact zCZ | (conv => lhs; whnf; arg 1; whnf)
 . conv => lhs; whnf; arg 1; whnf
 . rfl
 . rfl
|apply zAO rfl rfl
 . conv => lhs; whnf
 . first | exact zCZ | (conv => lhs; whnf; arg 1; whnf)
 . first | exact fun _ => rfl | (intro _; kernel_rfl)
 . conv => lhs; whnf
 . conv => lhs; whnf
|apply zN
 . conv => lhs; whnf; arg 1; arg 1; whnf
|apply zO
 . conv => lhs; whnf; arg 1; arg 1; whnf
|refine zW (by conv => lhs; whnf) ?_ ?_ <;> intro hb
|refine zn ?_
|refine zb ?_
|refine zH ?_
|refine zL ?_
|refine zG ?_
|refine zD rfl ?_
|refine zF rfl ?_
|refine zE ?_
|refine zJ ?_
|refine zC ?_
|refine zK ?_
|refine z8 ?_
|refine zI ?_
|refine ⟨_,by conv => lhs; whnf; arg 2; whnf,?_⟩; conv => rhs; whnf
|exact trivial
|intro hg)
   all_goals first
    | exact zAN (by omega)
    | exact at31 hi
    | (refine ⟨by simp,?_,?_⟩ <;> simp only [List.length_cons,List.length_nil,maxLen,htk] <;> omega)
    | skip
   refine zY (j':=j - 1) (by omega) ⟨i + 1,by omega,Sub.live ⟨?_,rfl,rfl,rfl,trivial⟩ ⟨?_,trivial⟩⟩
   . show V.own 3 _ (l.take i ++ [gD l i]) = V.own 3 _ (l.take (i + 1))
     rw [List.take_add_one,List.getElem?_eq_getElem hi,zBd hi]; rfl
   . show some (Res.tok _ ((l.take i).length + 1)) = some (Res.tok _ (l.take (i + 1)).length)
     rw [htk,List.length_take,show min (i + 1) l.length = i + 1 by omega]
 . have f0 : decide ((i : Int) < (l.length : Nat)) = false:=decide_eq_false (by omega)
   repeat' (first
|apply zT
 . conv => lhs; whnf
 . assumption
|apply zQ
 . conv => lhs; whnf
 . assumption
|refine zj ?_
|refine za ?_
|refine zAb ?_
|refine zB ?_
|refine zM ?_
|refine zk ?_
|refine zV ?_
|refine zd ?_
|apply aw_1
 conv => whnf
 refine ⟨?_,trivial⟩
|apply s_1
 conv => whnf; arg 1; arg 4; arg 3; whnf
 refine ⟨?_,?_⟩
|apply z7 rfl
 . conv => lhs; whnf
 . conv => lhs; whnf; arg 2; whnf
|apply zl rfl
 . conv => lhs; whnf
 . conv => lhs; whnf
 . first | fail
|apply zr rfl rfl rfl rfl
 . conv => lhs; whnf; arg 1; whnf
 . rfl
|apply zq rfl rfl rfl
 . conv => lhs; whnf
 . conv => lhs; whnf; arg 1; whnf
 . conv => lhs; whnf; arg 1; whnf
 . exact ⟨by kernel_rfl,by kernel_rfl⟩
 . rfl
|apply zAu rfl rfl
 . conv => lhs; whnf
 . first | (conv => lhs; whnf; arg 1; whnf)
 . first | exact fun _ => rfl | (intro _; kernel_rfl)
 . conv => lhs; whnf
 . conv => lhs; whnf; arg 1; whnf
 . conv => lhs; whnf
|apply zx rfl rfl rfl rfl
 . first | (conv => lhs; whnf; arg 1; whnf)
 . first | exact fun _ => rfl | (intro _; kernel_rfl)
 . conv => lhs; whnf
 . conv => lhs; whnf
|apply zAU rfl rfl
 . conv => lhs; whnf
 . first | (conv => lhs; whnf; arg 1; whnf)
|apply zAT rfl rfl
 . conv => lhs; whnf
 . first | (conv => lhs; whnf; arg 1; whnf)
 . conv => lhs; whnf; arg 1; whnf
 . rfl
 . rfl
|apply zAO rfl rfl
 . conv => lhs; whnf
 . first | (conv => lhs; whnf; arg 1; whnf)
 . first | exact fun _ => rfl | (intro _; kernel_rfl)
 . conv => lhs; whnf
 . conv => lhs; whnf
|apply zN
 . conv => lhs; whnf; arg 1; arg 1; whnf
|apply zO
 . conv => lhs; whnf; arg 1; arg 1; whnf
|refine zW (by conv => lhs; whnf) ?_ ?_ <;> intro hb
|refine zn ?_
|refine zb ?_
|refine zH ?_
|refine zL ?_
|refine zG ?_
|refine zD rfl ?_
|refine zF rfl ?_
|refine zE ?_
|refine zJ ?_
|refine zC ?_
|refine zK ?_
|refine z8 ?_
|refine zI ?_
|refine ⟨_,by conv => lhs; whnf; arg 2; whnf,?_⟩; conv => rhs; whnf
|exact trivial
|intro hg)
   rw [List.take_of_length_le (by omega)]
theorem copy_ac (E0 : Ge) : ∀ (k : Nat) (d : D),CpV k d -> AC E0 Tryz.prog 139 [.agg (cellsV Tryz.prog 12 62 d)] (.agg (cellsV Tryz.prog 12 62 d))
 | 0,_,h => h.elim
 | k + 1,d,h => by
   have h1:=copies_of E0 (d.f 3).l h.1 fun i hi => copy_ac E0 k _ (h.2.2 i hi)
   have h2:=cloneS_ac E0 (d.f 4).l (by have:=h.2.1; omega)
   refine zh 12 Tryz.func139 rfl rfl rfl rfl ?_
   intro s w he
   repeat' (first
|refine zB ?_
|refine zM ?_
|refine zk ?_
|refine zV ?_
|refine zd ?_
|apply aw_1
 conv => whnf
 refine ⟨?_,trivial⟩
|apply s_1
 conv => whnf; arg 1; arg 4; arg 3; whnf
 refine ⟨?_,?_⟩
|apply z7 rfl
 . conv => lhs; whnf
 . conv => lhs; whnf; arg 2; whnf
|apply zl rfl
 . conv => lhs; whnf
 . conv => lhs; whnf
 . first | exact h1 | exact h2
|apply zAV rfl rfl rfl rfl
 . conv => lhs; whnf; arg 1; whnf
 . rfl
|apply zr rfl rfl rfl rfl
 . conv => lhs; whnf; arg 1; whnf
 . rfl
|apply zq rfl rfl rfl
 . conv => lhs; whnf
 . conv => lhs; whnf; arg 1; whnf
 . conv => lhs; whnf; arg 1; whnf
 . exact ⟨by kernel_rfl,by kernel_rfl⟩
 . rfl
|apply zN
 . conv => lhs; whnf; arg 1; arg 1; whnf
|apply zO
 . conv => lhs; whnf; arg 1; arg 1; whnf
|refine zW (by conv => lhs; whnf) ?_ ?_ <;> intro hb
|refine zn ?_
|refine zb ?_
|refine zH ?_
|refine zL ?_
|refine zG ?_
|refine zD rfl ?_
|refine zF rfl ?_
|refine zE ?_
|refine zJ ?_
|refine zC ?_
|refine zK ?_
|refine z8 ?_
|refine zI ?_
|refine ⟨_,by conv => lhs; whnf; arg 2; whnf,?_⟩; conv => rhs; whnf
|exact trivial
|intro hg)
   rfl
end Go.Proofs.YtdlnnlglmifceaaGreatDoor
namespace Go.Proofs.YtdlnnlglmifceaaGreatDoor
open Go.RowKit
set_option linter.unusedSectionVars false
attribute [local irreducible] wpList Calls Code.wp AW AWo OpOk seqK zAi zAp loopK endK AC zAC Yld Sub
attribute [local irreducible] ACB ACX absLexG YldG absLexH
theorem txtP_ac (E0 : Ge) (s : ByteArray) : AC E0 Tryz.prog 105 [.c (.string s)] (.agg (cellsV Tryz.prog 12 62 (vD31 3 0 s))):=by
 refine AC.res ?_ (zHl 3 0 s)
 refine zh 5 Tryz.func105 rfl rfl rfl rfl ?_
 intro w0 w he
 repeat' (first
|refine zB ?_
|refine zM ?_
|refine zk ?_
|refine zV ?_
|refine zd ?_
|apply aw_1
 conv => whnf
 refine ⟨?_,trivial⟩
|apply s_1
 conv => whnf; arg 1; arg 4; arg 3; whnf
 refine ⟨?_,?_⟩
|apply z7 rfl
 . conv => lhs; whnf
 . conv => lhs; whnf; arg 2; whnf
|apply zr rfl rfl rfl rfl
 . conv => lhs; whnf; arg 1; whnf
 . rfl
|apply zq rfl rfl rfl
 . conv => lhs; whnf
 . conv => lhs; whnf; arg 1; whnf
 . conv => lhs; whnf; arg 1; whnf
 . exact ⟨by kernel_rfl,by kernel_rfl⟩
 . rfl
|apply zN
 . conv => lhs; whnf; arg 1; arg 1; whnf
|apply zO
 . conv => lhs; whnf; arg 1; arg 1; whnf
|refine zW (by conv => lhs; whnf) ?_ ?_ <;> intro hb
|refine zn ?_
|refine zb ?_
|refine zH ?_
|refine zL ?_
|refine zG ?_
|refine zD rfl ?_
|refine zF rfl ?_
|refine zE ?_
|refine zJ ?_
|refine zC ?_
|refine zK ?_
|refine z8 ?_
|refine zI ?_
|refine ⟨_,by conv => lhs; whnf; arg 2; whnf,?_⟩; conv => rhs; whnf
|exact trivial
|intro hg)
 rfl
theorem intP_ac (E0 : Ge) (n : Int) : AC E0 Tryz.prog 140 [.c (.int .i64 n)] (.agg (cellsV Tryz.prog 12 62 (vD31 2 n ⟨#[]⟩))):=by
 refine AC.res ?_ (zHl 2 n ⟨#[]⟩)
 refine zh 5 Tryz.func140 rfl rfl rfl rfl ?_
 intro w0 w he
 repeat' (first
|refine zB ?_
|refine zM ?_
|refine zk ?_
|refine zV ?_
|refine zd ?_
|apply aw_1
 conv => whnf
 refine ⟨?_,trivial⟩
|apply s_1
 conv => whnf; arg 1; arg 4; arg 3; whnf
 refine ⟨?_,?_⟩
|apply z7 rfl
 . conv => lhs; whnf
 . conv => lhs; whnf; arg 2; whnf
|apply zr rfl rfl rfl rfl
 . conv => lhs; whnf; arg 1; whnf
 . rfl
|apply zq rfl rfl rfl
 . conv => lhs; whnf
 . conv => lhs; whnf; arg 1; whnf
 . conv => lhs; whnf; arg 1; whnf
 . exact ⟨by kernel_rfl,by kernel_rfl⟩
 . rfl
|apply zN
 . conv => lhs; whnf; arg 1; arg 1; whnf
|apply zO
 . conv => lhs; whnf; arg 1; arg 1; whnf
|refine zW (by conv => lhs; whnf) ?_ ?_ <;> intro hb
|refine zn ?_
|refine zb ?_
|refine zH ?_
|refine zL ?_
|refine zG ?_
|refine zD rfl ?_
|refine zF rfl ?_
|refine zE ?_
|refine zJ ?_
|refine zC ?_
|refine zK ?_
|refine z8 ?_
|refine zI ?_
|refine ⟨_,by conv => lhs; whnf; arg 2; whnf,?_⟩; conv => rhs; whnf
|exact trivial
|intro hg)
 rfl
theorem zAW : zAX Tryz.prog 54 = some (68,96):=by kernel_rfl
theorem zU : zAX Tryz.prog 45 = some (57,128):=by kernel_rfl
noncomputable def fdpV (A : List D) (sub : ByteArray -> List D -> List D) (p : D) (b0 b1 : Bool) : V:=
 .agg [.c (.int .i64 1),.c (.string (bif b0 then (p.f 0).s else ⟨#[]⟩)),.c (.string (p.f 2).s),.c (.string ⟨#[]⟩),.sl 68 A,
  bif b1 then .sl 129 [zBX (p.f 6).n] else .c (.slice none 0 0),.sl 57 (sub ((p.f 4).f 0).s (p.f 7).l)]
theorem fdpV_le (sub : ByteArray -> List D -> List D) (p : D) {b0 b1 : Bool} (h0 : (!(p.f 0).s.toList == (p.f 2).s.toList) = b0) (h1 : ((p.f 6).n != -1) = b1) : VLe (fdpV (p.f 3).l sub p b0 b1) (.agg (cellsV Tryz.prog 12 57 (zCH sub p))):=by
 have e0 : (if (p.f 0).s.toList == (p.f 2).s.toList then (⟨#[]⟩ : ByteArray) else (p.f 0).s) = bif b0 then (p.f 0).s else ⟨#[]⟩:=by
  subst h0
  cases (p.f 0).s.toList == (p.f 2).s.toList <;> rfl
 have e : cellsV Tryz.prog 12 57 (zCH sub p) = [.c (.int .i64 1),.c (.string (if (p.f 0).s.toList == (p.f 2).s.toList then ⟨#[]⟩ else (p.f 0).s)),.c (.string (p.f 2).s),.c (.string ⟨#[]⟩),.sl 68 (p.f 3).l,.sl 129 (if (p.f 6).n = -1 then [] else [zBX (p.f 6).n]),.sl 57 (sub ((p.f 4).f 0).s (p.f 7).l)]:=rfl
 rw [e,e0]
 unfold fdpV
 by_cases hn : (p.f 6).n = -1
 . have : b1 = false:=by rw [<- h1,hn]; rfl
   subst this
   rw [if_pos hn]
   exact .agg (.cons (.refl _) (.cons (.refl _) (.cons (.refl _) (.cons (.refl _) (.cons (.refl _) (.cons (.nil _) (.cons (.refl _) .nil)))))))
 . have : b1 = true:=by rw [<- h1]; simpa using hn
   subst this
   rw [if_neg hn]
   exact .agg (.cons (.refl _) (.cons (.refl _) (.cons (.refl _) (.cons (.refl _) (.cons (.refl _) (.cons (.refl _) (.cons (.refl _) .nil)))))))
noncomputable def HFd (p : D) (al : ByteArray) (sels : List D) (i : Nat) : Vst 56:=
 stS 56 [(1,.bx 1 0),(2,.bx 2 0),(3,.bx 3 0),(24,.sl 68 (p.f 3).l),(25,.c (.int .i64 ((p.f 3).l.length : Nat))),(26,.c (.int .i64 (i : Int)))]
  [(1,.box 82 (cellsV Tryz.prog 12 82 p)),(2,.box 57 [.c (.int .i64 0),.c (.string ⟨#[]⟩),.c (.string ⟨#[]⟩),.c (.string ⟨#[]⟩),.c (.slice none 0 0),.c (.slice none 0 0),.c (.slice none 0 0)]),
   (3,.box 57 [.c (.int .i64 1),.c (.string al),.c (.string (p.f 2).s),.c (.string ⟨#[]⟩),.own 900 68 ((p.f 3).l.take i),.c (.slice none 0 0),.sl 57 sels]),(900,.tok 68 ((p.f 3).l.take i).length)]
noncomputable def HF0 (p : D) : Vst 56:=
 stS 56 [(1,.bx 1 0),(2,.bx 2 0)] [(1,.box 82 (cellsV Tryz.prog 12 82 p)),(2,.box 57 [.c (.int .i64 0),.c (.string ⟨#[]⟩),.c (.string ⟨#[]⟩),.c (.string ⟨#[]⟩),.c (.slice none 0 0),.c (.slice none 0 0),.c (.slice none 0 0)])]
theorem fieldP_ac (E0 : Ge) (sub : ByteArray -> List D -> List D) (p : D) (ha : CpA (p.f 3).l)
 (hs : AC E0 Tryz.prog 66 [.sl 82 (p.f 7).l,.c (.string ((p.f 4).f 0).s)] (.sl 57 (sub ((p.f 4).f 0).s (p.f 7).l))) :
 AC E0 Tryz.prog 104 [.agg (cellsV Tryz.prog 12 82 p)] (.agg (cellsV Tryz.prog 12 57 (zCH sub p))):=by
 have hcp:=fun i (hi : i < (p.f 3).l.length) => copy_ac E0 _ _ (ha.2 i hi).choose_spec
 have hln:=ha.1
 have ht:=txtP_ac E0 ⟨#[115]⟩
 have hn:=intP_ac E0 (p.f 6).n
 rcases h0 : (!(p.f 0).s.toList == (p.f 2).s.toList) with _ | _ <;> rcases h1 : ((p.f 6).n != -1) with _ | _
 let al : ByteArray:=⟨#[]⟩
 rotate_left 1
 let al : ByteArray:=⟨#[]⟩
 rotate_left 1
 let al : ByteArray:=(p.f 0).s
 rotate_left 1
 let al : ByteArray:=(p.f 0).s
 rotate_left 1
 all_goals
  refine AC.res ?_ (fdpV_le sub p h0 h1)
  refine zh 56 Tryz.func104 rfl rfl rfl rfl ?_
  intro s w he
  repeat' (first
|apply zCc ([(1,[1]),(3,[1]),(6,[1])]) ([(9,[3]),(10,[3])]) ([(9,3)]) rfl (by kernel_rfl) (by kernel_rfl) (by kernel_rfl) (by intro p hp; simp only [List.mem_cons,List.not_mem_nil,or_false] at hp; rcases hp with rfl <;> (repeat' (first | exact fresh_S rfl | refine fresh_put ?_ rfl | refine fresh_res ?_ rfl rfl)))
|apply h_nil
|apply zDO rfl rfl rfl rfl
 . conv => lhs; whnf; arg 1; whnf
 . rfl
 . rfl
 . kernel_rfl
|apply h_val rfl
 . conv => lhs; whnf
 . conv => lhs; whnf; arg 2; whnf
 . kernel_rfl
|apply h_lit0 rfl rfl rfl rfl
 . first | (conv => lhs; whnf; arg 1; whnf)
 . rfl
 . kernel_rfl
|apply h_app rfl rfl
 . conv => lhs; whnf
 . first | (conv => lhs; whnf; arg 1; whnf)
 . first | exact fun _ => rfl | (intro _; kernel_rfl)
 . conv => lhs; whnf
 . rfl
 . first | rfl | (conv => lhs; whnf; arg 1; whnf)
 . conv => lhs; whnf
 . kernel_rfl
|apply zDN rfl rfl rfl
 . conv => lhs; whnf
 . rfl
 . conv => lhs; whnf; arg 1; whnf
 . conv => lhs; whnf; arg 1; whnf
 . exact ⟨by kernel_rfl,by kernel_rfl⟩
 . rfl
 . kernel_rfl
|apply h_call rfl
 . conv => lhs; whnf
 . conv => lhs; whnf
 . first | exact hs
 . kernel_rfl
|show inO _ _ = true; rfl
|apply zT
 . conv => lhs; whnf
 . assumption
|apply zQ
 . conv => lhs; whnf
 . assumption
|apply zBV 1 (HF0 p) rfl
|refine zj ?_
|refine za ?_
|refine zAb ?_
|refine zB ?_
|refine zM ?_
|refine zk ?_
|refine zV ?_
|refine zd ?_
|apply aw_1
 conv => whnf
 refine ⟨?_,trivial⟩
|apply s_1
 conv => whnf; arg 1; arg 4; arg 3; whnf
 refine ⟨?_,?_⟩
|apply z7 rfl
 . conv => lhs; whnf
 . conv => lhs; whnf; arg 2; whnf
|apply zl rfl
 . conv => lhs; whnf
 . conv => lhs; whnf
 . first | exact hs
|apply zAV rfl rfl rfl rfl
 . conv => lhs; whnf; arg 1; whnf
 . rfl
|apply zr rfl rfl rfl rfl
 . conv => lhs; whnf; arg 1; whnf
 . rfl
|apply zq rfl rfl rfl
 . conv => lhs; whnf
 . conv => lhs; whnf; arg 1; whnf
 . conv => lhs; whnf; arg 1; whnf
 . exact ⟨by kernel_rfl,by kernel_rfl⟩
 . rfl
|apply zAu rfl rfl
 . conv => lhs; whnf
 . first | (conv => lhs; whnf; arg 1; whnf)
 . first | exact fun _ => rfl | (intro _; kernel_rfl)
 . conv => lhs; whnf
 . conv => lhs; whnf; arg 1; whnf
 . conv => lhs; whnf
|apply zx rfl rfl rfl rfl
 . first | (conv => lhs; whnf; arg 1; whnf)
 . first | exact fun _ => rfl | (intro _; kernel_rfl)
 . conv => lhs; whnf
 . conv => lhs; whnf
|apply zAU rfl rfl
 . conv => lhs; whnf
 . first | (conv => lhs; whnf; arg 1; whnf)
|apply zAT rfl rfl
 . conv => lhs; whnf
 . first | (conv => lhs; whnf; arg 1; whnf)
 . conv => lhs; whnf; arg 1; whnf
 . rfl
 . rfl
|apply zAO rfl rfl
 . conv => lhs; whnf
 . first | (conv => lhs; whnf; arg 1; whnf)
 . first | exact fun _ => rfl | (intro _; kernel_rfl)
 . conv => lhs; whnf
 . conv => lhs; whnf
|apply zw (by kernel_rfl) (by kernel_rfl)
|apply zAd
|apply zAc rfl
 . conv => lhs; whnf
 . conv => lhs; whnf; arg 2; whnf
|apply zAQ rfl
 . conv => lhs; whnf
 . conv => lhs; whnf
 . first | exact hs
|apply zAD rfl rfl rfl
 . conv => lhs; whnf
 . rfl
 . rfl
 . conv => lhs; whnf; arg 1; whnf
 . conv => lhs; whnf; arg 1; whnf
 . exact ⟨by kernel_rfl,by kernel_rfl⟩
 . rfl
|apply zAz rfl rfl
 . conv => lhs; whnf
 . first | (conv => lhs; whnf; arg 1; whnf)
 . first | exact fun _ => rfl | (intro _; kernel_rfl)
 . conv => lhs; whnf
 . rfl
 . rfl
 . conv => lhs; whnf; arg 1; whnf
 . conv => lhs; whnf
|apply zAa rfl rfl
 . conv => lhs; whnf
 . first | (conv => lhs; whnf; arg 1; whnf)
|apply zAZ rfl rfl
 . conv => lhs; whnf
 . first | (conv => lhs; whnf; arg 1; whnf)
 . conv => lhs; whnf; arg 1; whnf
 . rfl
 . rfl
|apply zAS rfl rfl
 . conv => lhs; whnf
 . first | (conv => lhs; whnf; arg 1; whnf)
 . first | exact fun _ => rfl | (intro _; kernel_rfl)
 . conv => lhs; whnf
 . conv => lhs; whnf
|exact zX
|exact ze
|exact all_nil
|show List.all _ _ = true; rfl
|show zAB _ _ = true; rfl
|exact ([] : List Nat)
|exact (1000000 : Nat)
|apply zN
 . conv => lhs; whnf; arg 1; arg 1; whnf
|apply zO
 . conv => lhs; whnf; arg 1; arg 1; whnf
|refine zW (by conv => lhs; whnf) ?_ ?_ <;> intro hb
|refine zn ?_
|refine zb ?_
|refine zH ?_
|refine zL ?_
|refine zG ?_
|refine zD rfl ?_
|refine zF rfl ?_
|refine zE ?_
|refine zJ ?_
|refine zC ?_
|refine zK ?_
|refine z8 ?_
|refine zI ?_
|refine ⟨_,by conv => lhs; whnf; arg 2; whnf,?_⟩; conv => rhs; whnf
|exact trivial
|intro hg)
  . exact Sub.live ⟨rfl,rfl,trivial⟩ ⟨rfl,rfl,trivial⟩
  refine zAF (Sub.ownF (m:=3) (q:=900) (i:=4) (e:=68) rfl (by decide) rfl rfl rfl) ?_
  refine zAG (fun j st => ∃ i,i + j = (p.f 3).l.length /\ Sub (cx E0 Tryz.prog s w he) st (HFd p al (sub ((p.f 4).f 0).s (p.f 7).l) i)) (p.f 3).l.length ⟨0,by omega,Sub.live ⟨rfl,rfl,rfl,rfl,rfl,rfl,trivial⟩ ⟨rfl,rfl,rfl,rfl,trivial⟩⟩ ?_
  rintro j st ⟨i,hij,hs2⟩
  refine zAF hs2 ?_
  clear hs2
  by_cases hi : i < (p.f 3).l.length
  . have f0 : decide ((i : Int) < ((p.f 3).l.length : Nat)) = true:=decide_eq_true (by omega)
    have h2:=hcp i hi
    have htk : ((p.f 3).l.take i).length = i:=by rw [List.length_take]; omega
    repeat' (first
|apply zBC 12 ([(1,[3]),(3,[5]),(5,[5])]) ([(9,[900]),(11,[3])]) rfl (by kernel_rfl) (by kernel_rfl) (by kernel_rfl)
|apply zFa
|apply zFZ rfl
 . conv => lhs; whnf
 . conv => lhs; whnf; arg 2; whnf
|apply zC8 rfl
 . conv => lhs; whnf
 . conv => lhs; whnf
 . first | exact h2
|apply zFb rfl rfl
 . conv => lhs; whnf
 . first | exact zAW | (conv => lhs; whnf; arg 1; whnf)
 . first | exact fun _ => rfl | (intro _; kernel_rfl)
 . conv => lhs; whnf
 . rfl
 . conv => lhs; whnf; arg 1; whnf
 . conv => lhs; whnf
|apply zB3 rfl rfl rfl
 . conv => lhs; whnf
 . rfl
 . conv => lhs; whnf; arg 1; whnf
 . conv => lhs; whnf; arg 1; whnf
 . exact ⟨by kernel_rfl,by kernel_rfl⟩
 . rfl
|show inO _ _ = true; rfl
|apply zEr (.agg (cellsV Tryz.prog 12 68 (gD (p.f 3).l i))) rfl rfl
 . conv => lhs; whnf; arg 2; whnf
 . repeat' (first | exact VLe.refl _ | exact VLe.nil _ | exact VLe.lit _ _ | exact VLe.own _ _ _ | apply VLe.agg | apply VLeL.cons | exact VLeL.nil)
|apply g_lit [gD (p.f 3).l i] rfl rfl
 . conv => lhs; whnf
 . first | exact zAW | (conv => lhs; whnf; arg 1; whnf)
 . rfl
 . rfl
 . repeat' (first | exact trivial | apply And.intro | rfl)
|apply zT
 . conv => lhs; whnf
 . assumption
|apply zQ
 . conv => lhs; whnf
 . assumption
|refine zj ?_
|refine za ?_
|refine zAb ?_
|refine zB ?_
|refine zM ?_
|refine zk ?_
|refine zV ?_
|refine zd ?_
|apply aw_1
 conv => whnf
 refine ⟨?_,trivial⟩
|apply s_1
 conv => whnf; arg 1; arg 4; arg 3; whnf
 refine ⟨?_,?_⟩
|apply z7 rfl
 . conv => lhs; whnf
 . conv => lhs; whnf; arg 2; whnf
|apply zl rfl
 . conv => lhs; whnf
 . conv => lhs; whnf
 . first | exact h2
|apply zAV rfl rfl rfl rfl
 . conv => lhs; whnf; arg 1; whnf
 . rfl
|apply zr rfl rfl rfl rfl
 . conv => lhs; whnf; arg 1; whnf
 . rfl
|apply zq rfl rfl rfl
 . conv => lhs; whnf
 . conv => lhs; whnf; arg 1; whnf
 . conv => lhs; whnf; arg 1; whnf
 . exact ⟨by kernel_rfl,by kernel_rfl⟩
 . rfl
|apply zAu rfl rfl
 . conv => lhs; whnf
 . first | exact zAW | (conv => lhs; whnf; arg 1; whnf)
 . first | exact fun _ => rfl | (intro _; kernel_rfl)
 . conv => lhs; whnf
 . conv => lhs; whnf; arg 1; whnf
 . conv => lhs; whnf
|apply zx rfl rfl rfl rfl
 . first | exact zAW | (conv => lhs; whnf; arg 1; whnf)
 . first | exact fun _ => rfl | (intro _; kernel_rfl)
 . conv => lhs; whnf
 . conv => lhs; whnf
|apply zAU rfl rfl
 . conv => lhs; whnf
 . first | exact zAW | (conv => lhs; whnf; arg 1; whnf)
|apply zAT rfl rfl
 . conv => lhs; whnf
 . first | exact zAW | (conv => lhs; whnf; arg 1; whnf)
 . conv => lhs; whnf; arg 1; whnf
 . rfl
 . rfl
|apply zAO rfl rfl
 . conv => lhs; whnf
 . first | exact zAW | (conv => lhs; whnf; arg 1; whnf)
 . first | exact fun _ => rfl | (intro _; kernel_rfl)
 . conv => lhs; whnf
 . conv => lhs; whnf
|apply zw (by kernel_rfl) (by kernel_rfl)
|apply zAd
|apply zAc rfl
 . conv => lhs; whnf
 . conv => lhs; whnf; arg 2; whnf
|apply zAQ rfl
 . conv => lhs; whnf
 . conv => lhs; whnf
 . first | exact h2
|apply zAD rfl rfl rfl
 . conv => lhs; whnf
 . rfl
 . rfl
 . conv => lhs; whnf; arg 1; whnf
 . conv => lhs; whnf; arg 1; whnf
 . exact ⟨by kernel_rfl,by kernel_rfl⟩
 . rfl
|apply zAz rfl rfl
 . conv => lhs; whnf
 . first | exact zAW | (conv => lhs; whnf; arg 1; whnf)
 . first | exact fun _ => rfl | (intro _; kernel_rfl)
 . conv => lhs; whnf
 . rfl
 . rfl
 . conv => lhs; whnf; arg 1; whnf
 . conv => lhs; whnf
|apply zAa rfl rfl
 . conv => lhs; whnf
 . first | exact zAW | (conv => lhs; whnf; arg 1; whnf)
|apply zAZ rfl rfl
 . conv => lhs; whnf
 . first | exact zAW | (conv => lhs; whnf; arg 1; whnf)
 . conv => lhs; whnf; arg 1; whnf
 . rfl
 . rfl
|apply zAS rfl rfl
 . conv => lhs; whnf
 . first | exact zAW | (conv => lhs; whnf; arg 1; whnf)
 . first | exact fun _ => rfl | (intro _; kernel_rfl)
 . conv => lhs; whnf
 . conv => lhs; whnf
|exact zX
|exact ze
|exact all_nil
|show List.all _ _ = true; rfl
|show zAB _ _ = true; rfl
|exact ([] : List Nat)
|exact (1000000 : Nat)
|apply zN
 . conv => lhs; whnf; arg 1; arg 1; whnf
|apply zO
 . conv => lhs; whnf; arg 1; arg 1; whnf
|refine zW (by conv => lhs; whnf) ?_ ?_ <;> intro hb
|refine zn ?_
|refine zb ?_
|refine zH ?_
|refine zL ?_
|refine zG ?_
|refine zD rfl ?_
|refine zF rfl ?_
|refine zE ?_
|refine zJ ?_
|refine zC ?_
|refine zK ?_
|refine z8 ?_
|refine zI ?_
|refine ⟨_,by conv => lhs; whnf; arg 2; whnf,?_⟩; conv => rhs; whnf
|exact trivial
|intro hg)
    all_goals first
     | exact zAN (by omega)
     | exact at31 hi
     | (refine ⟨by simp,?_,?_⟩ <;> simp only [List.length_cons,List.length_nil,maxLen,htk] <;> omega)
     | skip
    have e1 : (p.f 3).l.take (i + 1) = (p.f 3).l.take i ++ [gD (p.f 3).l i]:=by rw [List.take_add_one,List.getElem?_eq_getElem hi,zBd hi]; rfl
    refine zY (j':=j - 1) (by omega) ⟨i + 1,by omega,Sub.live ⟨rfl,rfl,rfl,rfl,rfl,rfl,trivial⟩ ⟨rfl,rfl,?_,?_,trivial⟩⟩
    . rw [e1]; rfl
    . rw [e1,List.length_append]; rfl
  . have f0 : decide ((i : Int) < ((p.f 3).l.length : Nat)) = false:=decide_eq_false (by omega)
    have e1 : (p.f 3).l.take i = (p.f 3).l:=List.take_of_length_le (by omega)
    repeat' (first
|apply zEr (.agg (cellsV Tryz.prog 12 68 (sArg ⟨#[108,97,98,101,108]⟩ (vD31 3 0 ⟨#[115]⟩)))) rfl rfl
 . conv => lhs; whnf; arg 2; whnf
 . repeat' (first | exact VLe.refl _ | exact VLe.nil _ | exact VLe.lit _ _ | exact VLe.own _ _ _ | apply VLe.agg | apply VLeL.cons | exact VLeL.nil)
|apply zEr (.agg (cellsV Tryz.prog 12 68 (sArg ⟨#[105,110,105,116,105,97,108,67,111,117,110,116]⟩ (vD31 2 (p.f 6).n ⟨#[]⟩)))) rfl rfl
 . conv => lhs; whnf; arg 2; whnf
 . repeat' (first | exact VLe.refl _ | exact VLe.nil _ | exact VLe.lit _ _ | exact VLe.own _ _ _ | apply VLe.agg | apply VLeL.cons | exact VLeL.nil)
|apply zEr (.agg (cellsV Tryz.prog 12 129 (zBX (p.f 6).n))) rfl rfl
 . conv => lhs; whnf; arg 2; whnf
 . repeat' (first | exact VLe.refl _ | exact VLe.nil _ | exact VLe.lit _ _ | exact VLe.own _ _ _ | apply VLe.agg | apply VLeL.cons | exact VLeL.nil)
|apply zBC 11 ([(3,[1])]) ([(10,[3])]) rfl (by kernel_rfl) (by kernel_rfl) (by kernel_rfl)
|apply zFa
|apply zFZ rfl
 . conv => lhs; whnf
 . conv => lhs; whnf; arg 2; whnf
|apply zC8 rfl
 . conv => lhs; whnf
 . conv => lhs; whnf
 . first | exact ht | exact hn
|apply zFb rfl rfl
 . conv => lhs; whnf
 . first | (conv => lhs; whnf; arg 1; whnf)
 . first | exact fun _ => rfl | (intro _; kernel_rfl)
 . conv => lhs; whnf
 . rfl
 . conv => lhs; whnf; arg 1; whnf
 . conv => lhs; whnf
|apply zB3 rfl rfl rfl
 . conv => lhs; whnf
 . rfl
 . conv => lhs; whnf; arg 1; whnf
 . conv => lhs; whnf; arg 1; whnf
 . exact ⟨by kernel_rfl,by kernel_rfl⟩
 . rfl
|show inO _ _ = true; rfl
|apply g_lit [sArg ⟨#[108,97,98,101,108]⟩ (vD31 3 0 ⟨#[115]⟩),sArg ⟨#[105,110,105,116,105,97,108,67,111,117,110,116]⟩ (vD31 2 (p.f 6).n ⟨#[]⟩)] rfl rfl
 . conv => lhs; whnf
 . first | (conv => lhs; whnf; arg 1; whnf)
 . rfl
 . rfl
 . repeat' (first | exact trivial | apply And.intro | rfl)
|apply g_lit [zBX (p.f 6).n] rfl rfl
 . conv => lhs; whnf
 . first | (conv => lhs; whnf; arg 1; whnf)
 . rfl
 . rfl
 . repeat' (first | exact trivial | apply And.intro | rfl)
|apply zT
 . conv => lhs; whnf
 . assumption
|apply zQ
 . conv => lhs; whnf
 . assumption
|refine zj ?_
|refine za ?_
|refine zAb ?_
|refine zB ?_
|refine zM ?_
|refine zk ?_
|refine zV ?_
|refine zd ?_
|apply aw_1
 conv => whnf
 refine ⟨?_,trivial⟩
|apply s_1
 conv => whnf; arg 1; arg 4; arg 3; whnf
 refine ⟨?_,?_⟩
|apply z7 rfl
 . conv => lhs; whnf
 . conv => lhs; whnf; arg 2; whnf
|apply zl rfl
 . conv => lhs; whnf
 . conv => lhs; whnf
 . first | exact ht | exact hn
|apply zAV rfl rfl rfl rfl
 . conv => lhs; whnf; arg 1; whnf
 . rfl
|apply zr rfl rfl rfl rfl
 . conv => lhs; whnf; arg 1; whnf
 . rfl
|apply zq rfl rfl rfl
 . conv => lhs; whnf
 . conv => lhs; whnf; arg 1; whnf
 . conv => lhs; whnf; arg 1; whnf
 . exact ⟨by kernel_rfl,by kernel_rfl⟩
 . rfl
|apply zAu rfl rfl
 . conv => lhs; whnf
 . first | (conv => lhs; whnf; arg 1; whnf)
 . first | exact fun _ => rfl | (intro _; kernel_rfl)
 . conv => lhs; whnf
 . conv => lhs; whnf; arg 1; whnf
 . conv => lhs; whnf
|apply zx rfl rfl rfl rfl
 . first | (conv => lhs; whnf; arg 1; whnf)
 . first | exact fun _ => rfl | (intro _; kernel_rfl)
 . conv => lhs; whnf
 . conv => lhs; whnf
|apply zAU rfl rfl
 . conv => lhs; whnf
 . first | (conv => lhs; whnf; arg 1; whnf)
|apply zAT rfl rfl
 . conv => lhs; whnf
 . first | (conv => lhs; whnf; arg 1; whnf)
 . conv => lhs; whnf; arg 1; whnf
 . rfl
 . rfl
|apply zAO rfl rfl
 . conv => lhs; whnf
 . first | (conv => lhs; whnf; arg 1; whnf)
 . first | exact fun _ => rfl | (intro _; kernel_rfl)
 . conv => lhs; whnf
 . conv => lhs; whnf
|apply zw (by kernel_rfl) (by kernel_rfl)
|apply zAd
|apply zAc rfl
 . conv => lhs; whnf
 . conv => lhs; whnf; arg 2; whnf
|apply zAQ rfl
 . conv => lhs; whnf
 . conv => lhs; whnf
 . first | exact ht | exact hn
|apply zAD rfl rfl rfl
 . conv => lhs; whnf
 . rfl
 . rfl
 . conv => lhs; whnf; arg 1; whnf
 . conv => lhs; whnf; arg 1; whnf
 . exact ⟨by kernel_rfl,by kernel_rfl⟩
 . rfl
|apply zAz rfl rfl
 . conv => lhs; whnf
 . first | (conv => lhs; whnf; arg 1; whnf)
 . first | exact fun _ => rfl | (intro _; kernel_rfl)
 . conv => lhs; whnf
 . rfl
 . rfl
 . conv => lhs; whnf; arg 1; whnf
 . conv => lhs; whnf
|apply zAa rfl rfl
 . conv => lhs; whnf
 . first | (conv => lhs; whnf; arg 1; whnf)
|apply zAZ rfl rfl
 . conv => lhs; whnf
 . first | (conv => lhs; whnf; arg 1; whnf)
 . conv => lhs; whnf; arg 1; whnf
 . rfl
 . rfl
|apply zAS rfl rfl
 . conv => lhs; whnf
 . first | (conv => lhs; whnf; arg 1; whnf)
 . first | exact fun _ => rfl | (intro _; kernel_rfl)
 . conv => lhs; whnf
 . conv => lhs; whnf
|exact zX
|exact ze
|exact all_nil
|show List.all _ _ = true; rfl
|show zAB _ _ = true; rfl
|exact ([] : List Nat)
|exact (1000000 : Nat)
|apply zN
 . conv => lhs; whnf; arg 1; arg 1; whnf
|apply zO
 . conv => lhs; whnf; arg 1; arg 1; whnf
|refine zW (by conv => lhs; whnf) ?_ ?_ <;> intro hb
|refine zn ?_
|refine zb ?_
|refine zH ?_
|refine zL ?_
|refine zG ?_
|refine zD rfl ?_
|refine zF rfl ?_
|refine zE ?_
|refine zJ ?_
|refine zC ?_
|refine zK ?_
|refine z8 ?_
|refine zI ?_
|refine ⟨_,by conv => lhs; whnf; arg 2; whnf,?_⟩; conv => rhs; whnf
|exact trivial
|intro hg)
    all_goals exact (congrArg (fun A => fdpV A sub p _ _) e1.symm).trans rfl
end Go.Proofs.YtdlnnlglmifceaaGreatDoor
