import Derived.Test.YthjiclhfhjdjpaaGreatDoorProg
import Derived.KernelRfl
import Derived.Test.YthjiclhfhjdjpaaGreatDoorQ27
set_option maxHeartbeats 8000000
set_option maxRecDepth 100000
set_option linter.unusedVariables false
set_option linter.unusedSimpArgs false
namespace Go.Proofs.YthjiclhfhjdjpaaGreatDoor
open Go.RowKit
attribute [local irreducible] wpList Calls Code.wp AW AWo OpOk seqK zAf zAh loopK endK AC zAD Yld Sub
def zq (f : Nat -> List UInt8) (n : Nat) : List D:=(List.range n).map fun i => .str (bs (f i))
theorem zAC (f : Nat -> List UInt8) (n : Nat) : (zq f n).length = n:=by simp [zq]
theorem zr (f : Nat -> List UInt8) (n : Nat) : zq f (n + 1) = zq f n ++ [.str (bs (f n))]:=by simp [zq,List.range_succ]
theorem zAU (f : Nat -> List UInt8) (n : Nat) : txs (zq f n) = (List.range n).map f:=by
 unfold txs zq
 rw [List.map_map]
 exact List.map_congr_left fun i _ => zAS _
theorem txs_get {l : List D} {i : Nat} (h : i < l.length) : (txs l)[i]? = some (tx (gD l i).s):=by
 unfold txs
 rw [List.getElem?_map,List.getElem?_eq_getElem h,zAt h]; rfl
theorem zAu (l : List D) (sep : List UInt8) {i : Nat} (h : i < l.length) : Lib.join ((txs l).take (i + 1)) sep = if 0 < i then Lib.join ((txs l).take i) sep ++ sep ++ tx (gD l i).s else tx (gD l i).s:=by
 rw [List.take_add_one,txs_get h]
 by_cases h0 : 0 < i
 . rw [if_pos h0]
   exact zCg _ _ _ (fun e => by have h2:=congrArg List.length e; rw [List.length_take,zG6] at h2; simp only [List.length_nil] at h2; omega)
 . rw [if_neg h0]
   have : i = 0:=by omega
   subst this
   exact Lib.join_one _ _
theorem zGa (ls : List (List UInt8)) (sep : List UInt8) (m : Nat) : (Lib.join (ls.take m) sep).length <= (Lib.join ls sep).length:=zDR ls sep m
noncomputable def HJoin (l : List D) (sep : List UInt8) (i : Nat) : Vst 25:=
 stS 25 [(0,.sl 9 l),(1,.c (.string (bs sep))),(5,.c (.string (bs (Lib.join ((txs l).take i) sep)))),(6,.c (.int .i64 i))] []
theorem zD7 (l : List D) (sep : List UInt8) (hn : l.length <= 800000000) (hl : (Lib.join (txs l) sep).length <= 800000000) (hsep : sep.length <= 1000) :
 AC EN Tryz.prog 205 [.sl 9 l,.c (.string (bs sep))] (.c (.string (bs (Lib.join (txs l) sep)))):=by
 have hm:=zGa (txs l) sep
 refine zO 25 Tryz.func205 rfl rfl rfl rfl ?_
 intro s w he
 repeat' (first
|refine zB ?_
|refine zC ?_
|refine zQ ?_
|apply aw_1
 conv => whnf
 refine ⟨?_,trivial⟩
|apply s_1
 conv => whnf; arg 1; arg 4; arg 3; whnf
 refine ⟨?_,?_⟩
|exact trivial)
 refine zv (fun j st => ∃ i,i + j = l.length /\ Sub (cx EN Tryz.prog s w he) st (HJoin l sep i)) l.length ⟨0,by omega,?_⟩ ?_
 . exact Sub.live ⟨rfl,rfl,rfl,rfl,trivial⟩ trivial
 . rintro j st ⟨i,hij,hs2⟩
   refine zu hs2 ?_
   have hm1:=hm i
   have hm2:=hm (i + 1)
   have hst : i < l.length -> (gD l i).s.size <= 800000000:=fun h => by
    rw [zAu l sep h] at hm2
    have:=zAP (gD l i).s
    split at hm2
    . simp only [List.length_append] at hm2; omega
    . omega
   repeat' (first
|refine zB ?_
|refine zC ?_
|refine zQ ?_
|refine zU ?_
|apply aw_1
 conv => whnf
 refine ⟨?_,trivial⟩
|apply s_1
 conv => whnf; arg 1; arg 4; arg 3; whnf
 refine ⟨?_,?_⟩
|refine zV (by conv => lhs; whnf) ?_ ?_ <;> intro hb
|refine zI ?_
|refine zE rfl ?_
|refine zG ?_
|refine zD ?_
|refine ⟨_,by conv => lhs; whnf; arg 2; whnf,?_⟩; conv => rhs; whnf
|exact trivial)
   . rename_i hb0
     have hi : i < l.length:=by simpa using hb0
     have h0 : 0 < i:=by simpa using hb
     refine zF (j':=j - 1) (by omega) ⟨i + 1,by omega,Sub.live ⟨rfl,rfl,?_,rfl,trivial⟩ trivial⟩
     show V.c (.string (bs (Lib.join ((txs l).take i) sep) ++ bs sep ++ (gD l i).s)) = _
     rw [zAu l sep hi,if_pos h0,<- zR,<- zR,zA4]
   . exact zo (by omega)
   . rename_i hb0
     have hi : i < l.length:=by simpa using hb0
     have:=hst hi
     rw [show ((i : Int)).toNat = i from rfl]
     (simp only [ByteArray.size_append,zS,zT,List.size_toArray,List.length_append,List.length_cons,List.length_nil,maxLen,Nat.reduceAdd,Int.toNat_natCast]; omega)
   . rename_i hb0
     have hi : i < l.length:=by simpa using hb0
     omega
   . (simp only [ByteArray.size_append,zS,zT,List.size_toArray,List.length_append,List.length_cons,List.length_nil,maxLen,Nat.reduceAdd,Int.toNat_natCast]; omega)
   . rename_i hb0
     have hi : i < l.length:=by simpa using hb0
     have h0 : ¬ 0 < i:=by simpa using hb
     refine zF (j':=j - 1) (by omega) ⟨i + 1,by omega,Sub.live ⟨rfl,rfl,?_,rfl,trivial⟩ trivial⟩
     show V.c (.string (bs (Lib.join ((txs l).take i) sep) ++ (gD l i).s)) = _
     rw [zAu l sep hi,if_neg h0]
     have e : i = 0:=by omega
     subst e
     rw [List.take_zero,Lib.join_nil,zA4]
     rfl
   . exact zo (by omega)
   . rename_i hb0
     have hi : i < l.length:=by simpa using hb0
     have:=hst hi
     rw [show ((i : Int)).toNat = i from rfl]
     (simp only [ByteArray.size_append,zS,zT,List.size_toArray,List.length_append,List.length_cons,List.length_nil,maxLen,Nat.reduceAdd,Int.toNat_natCast]; omega)
   . rename_i hb0
     have hi : i < l.length:=by simpa using hb0
     omega
   . have e : i = l.length:=by simp at hb; omega
     rw [e,<- zG6 l,List.take_length]
theorem zBZ {l : List D} {x : D} {c : Nat} (h : l.length <= 800000000) (hc : c <= 1000) : 0 < [x].length /\ l.length + [x].length <= maxLen /\ (l.length + [x].length) * c <= 140737488355328:=by
 refine ⟨by simp,by unfold maxLen; simp; omega,?_⟩
 have : (l.length + 1) * c <= 800000001 * 1000:=Nat.mul_le_mul (by omega) hc
 simp only [List.length_cons,List.length_nil,Nat.zero_add]
 omega
theorem zC3 {i n : Nat} (h : decide ((i : Int) < (n : Int)) = true) : 0 <= (i : Int) /\ (i : Int) < (n : Int):=⟨by omega,of_decide_eq_true h⟩
theorem zAW {i n : Nat} (h : decide ((i : Int) < (n : Int)) = true) : i < n:=by have:=of_decide_eq_true h; omega
theorem zCK {i n : Nat} (h : decide ((i : Int) < (n : Int)) = false) : n <= i:=by have:=of_decide_eq_false h; omega
theorem sz3 {a b : UInt8} {l : List UInt8} {n : Nat} (h : l.length <= n) (hn : n <= 8000000000:=by omega) : ((⟨#[a]⟩ : ByteArray) ++ bs l).size + (⟨#[b]⟩ : ByteArray).size <= maxLen:=by
 simp only [ByteArray.size_append,zS]
 show 1 + _ + 1 <= _
 unfold maxLen; omega
theorem sz2 {a : UInt8} {l : List UInt8} {n : Nat} (h : l.length <= n) (hn : n <= 8000000000:=by omega) : (⟨#[a]⟩ : ByteArray).size + (bs l).size <= maxLen:=by
 simp only [zS]
 show 1 + _ <= _
 unfold maxLen; omega
def mI (a b : Nat) : Int:=if (b : Int) < (a : Int) then b else a
theorem mI_eq (a b : Nat) : mI a b = (min a b : Nat):=by unfold mI; split <;> omega
noncomputable def HzL (d : D) (f : Nat -> List UInt8) (i : Nat) : Vst 85:=
 stS 85 [(1,.bx 1 0),(3,.own 3 9 (zq f i)),(36,.sl 84 (d.f 3).l),(37,.c (.int .i64 (d.f 3).l.length)),(38,.c (.int .i64 i))] [(1,.box 84 (cellsV Tryz.prog 12 84 d)),(3,.tok 9 (zq f i).length)]
noncomputable def HzO (d : D) (f : Nat -> List UInt8) (i : Nat) : Vst 85:=
 stS 85 [(1,.bx 1 0),(3,.own 3 9 (zq f i)),(60,.c (.int .i64 (if ((d.f 3).l.length : Int) < ((d.f 4).l.length : Int) then ((d.f 3).l.length : Int) else ((d.f 4).l.length : Int)))),(61,.c (.int .i64 i))] [(1,.box 84 (cellsV Tryz.prog 12 84 d)),(3,.tok 9 (zq f i).length)]
def goodV : Nat -> D -> Prop
 | 0,_ => True
 | k + 1,d => ((d.f 0).n = 1 -> (d.f 1).n = 0 \/ (d.f 1).n = 1) /\ ∀ i,i < (d.f 3).l.length -> goodV k (gD (d.f 3).l i)
theorem zGE (k : Nat) (d : D) (hw : wideD d) (hb : bulkD d <= 8388608) : (Lib.join ((List.range (d.f 3).l.length).map fun i => valT k (gD (d.f 3).l i)) commaT).length <= 208000000:=by
 have:=zBE (d.f 3).l.length (fun i => valT k (gD (d.f 3).l i)) commaT (fun i => 24 * bulkD (gD (d.f 3).l i)) fun i hi => zBL k _ ((hw.f 3).l i)
 rw [zBq,<- zBG] at this
 have h3:=z7 (d.f 3)
 have h4:=wD_f d 3
 have h5:=zZ d
 omega
theorem zEJ (k : Nat) (d : D) (hw : wideD d) (hb : bulkD d <= 8388608) : (Lib.join ((List.range (min (d.f 4).l.length (d.f 3).l.length)).map fun i => tx (gD (d.f 4).l i).s ++ [58,32] ++ valT k (gD (d.f 3).l i)) commaT).length <= 416000000:=by
 have:=zBE (min (d.f 4).l.length (d.f 3).l.length) (fun i => tx (gD (d.f 4).l i).s ++ [58,32] ++ valT k (gD (d.f 3).l i)) commaT (fun i => 24 * bulkD (gD (d.f 4).l i) + 24 * bulkD (gD (d.f 3).l i)) fun i hi => by
  have a:=zBL k (gD (d.f 3).l i) ((hw.f 3).l i)
  have b:=zAG (gD (d.f 4).l i)
  have c:=zZ (gD (d.f 4).l i)
  have e:=zAP (gD (d.f 4).l i).s
  have e' : commaT.length = 2:=rfl
  simp only [List.length_append,List.length_cons,List.length_nil]
  omega
 rw [zFc,zBq,zBq] at this
 have a1:=zBg (fun i => bulkD (gD (d.f 4).l i)) (show min (d.f 4).l.length (d.f 3).l.length <= (d.f 4).l.length by omega)
 have a2:=zBg (fun i => bulkD (gD (d.f 3).l i)) (show min (d.f 4).l.length (d.f 3).l.length <= (d.f 3).l.length by omega)
 rw [<- zBG] at a1 a2
 have h3:=z7 (d.f 3)
 have h4:=z7 (d.f 4)
 have h5:=wD_f d 3
 have h6:=wD_f d 4
 have h7:=zZ d
 omega
theorem zHs (d : D) (hb : bulkD d <= 8388608) : (d.f 2).s.size <= 8388608 /\ (d.f 3).l.length <= 8388608 /\ (d.f 4).l.length <= 8388608:=by
 have len : ∀ l : List D,l.length <= bulkL l:=fun l => by
  induction l with
  | nil => exact Nat.zero_le _
  | cons x r ih => have:=zAy x; simp only [List.length_cons,bulkL]; omega
 have h2:=zAG (d.f 2)
 have h3:=z7 (d.f 3)
 have h4:=z7 (d.f 4)
 have h5:=wD_f d 2
 have h6:=wD_f d 3
 have h7:=wD_f d 4
 have h8:=zZ d
 have:=len (d.f 3).l
 have:=len (d.f 4).l
 omega
theorem zGF {k : Nat} {d : D} (h : (d.f 0).n = 5) : valT (k + 1) d = [91] ++ Lib.join ((List.range (d.f 3).l.length).map fun i => valT k (gD (d.f 3).l i)) commaT ++ [93]:=by
 rw [valT,h]; rfl
theorem zFY {k : Nat} {d : D} (h : (d.f 0).n = 6) : valT (k + 1) d = [123] ++ Lib.join ((List.range (min (d.f 4).l.length (d.f 3).l.length)).map fun i => tx (gD (d.f 4).l i).s ++ [58,32] ++ valT k (gD (d.f 3).l i)) commaT ++ [125]:=by
 rw [valT,h]; rfl
theorem zC9 : ∀ (k : Nat) (d : D),Dp k d -> wideD d -> goodV k d -> bulkD d <= 8388608 -> AC EN Tryz.prog 122 [.agg (cellsV Tryz.prog 12 84 d)] (.c (.string (bs (valT k d))))
 | 0,_,h,_,_,_ => h.elim
 | k + 1,d,h,hw,hg,hb => by
   obtain ⟨hs,hl3,hl4⟩:=zHs d hb
   have hn:=(hw.f 1).n
   have hdec:=zHc (d.f 1).n hn.1 hn.2
   have hq:=quoteP_ac (d.f 2).s hs
   have hit:=zGE k d hw hb
   have hen:=zEJ k d hw hb
   have ih : ∀ i,i < (d.f 3).l.length -> AC EN Tryz.prog 122 [.agg (cellsV Tryz.prog 12 84 (gD (d.f 3).l i))] (.c (.string (bs (valT k (gD (d.f 3).l i))))):=fun i hi =>
    zC9 k _ (h i hi) ((hw.f 3).l i) (hg.2 i hi) (by have:=zBF hi; have:=zZ d; omega)
   have hjl:=zB1 (zq (fun i => valT k (gD (d.f 3).l i)) (d.f 3).l.length) [44,32] (by rw [zAC]; omega) (by rw [zAU]; exact Nat.le_trans hit (by omega))
   have hjo:=zB1 (zq (fun i => tx (gD (d.f 4).l i).s ++ [58,32] ++ valT k (gD (d.f 3).l i)) (min (d.f 4).l.length (d.f 3).l.length)) [44,32] (by rw [zAC]; omega) (by rw [zAU]; exact Nat.le_trans hen (by omega))
   refine zO 85 Tryz.func122 rfl rfl rfl rfl ?_
   intro s w he
   repeat' (first
|refine zB ?_
|refine zC ?_
|refine zQ ?_
|refine zU ?_
|apply aw_1
 conv => whnf
 refine ⟨?_,trivial⟩
|apply s_1
 conv => whnf; arg 1; arg 4; arg 3; whnf
 refine ⟨?_,?_⟩
|apply zl rfl
 . conv => lhs; whnf
 . conv => lhs; whnf
 . first | exact hdec | exact hq
|apply zAN rfl rfl rfl rfl
 . conv => lhs; whnf; arg 1; whnf
 . rfl
|refine zV (by conv => lhs; whnf) ?_ ?_ <;> intro hb
|refine zN ?_
|refine zL ?_
|refine zD ?_
|refine ⟨_,by conv => lhs; whnf; arg 2; whnf,?_⟩; conv => rhs; whnf
|exact trivial)
   . rename_i h0
     rw [valT,if_pos (by simpa using h0),if_neg (by have h1 : (d.f 1).n = 0:=by simpa using hb
                                                    rw [h1]; decide)]; rfl
   . rename_i h0
     have h1 : ¬ (d.f 1).n = 0:=by simpa using hb
     rw [valT,if_pos (by simpa using h0),if_pos ((hg.1 (by simpa using h0)).resolve_left h1)]; rfl
   . rename_i h0
     rw [valT,if_neg (by simpa using h0),if_pos (by simpa using hb)]
   . rename_i h0 h1
     rw [valT,if_neg (by simpa using h0),if_neg (by simpa using h1),if_pos (by simpa using hb)]
   . rename_i h0 h1 h2
     rw [valT,if_neg (by simpa using h0),if_neg (by simpa using h1),if_neg (by simpa using h2),if_pos (by simpa using hb),zA4]
   . rename_i h0 h1 h2 h3
     rw [valT,if_neg (by simpa using h0),if_neg (by simpa using h1),if_neg (by simpa using h2),if_neg (by simpa using h3),if_pos (by simpa using hb),<- zR,zA4]; rfl
   . have : (d.f (0 + 1 + 1)).s.size <= 8388608:=hs
     show 1 + _ <= _
     unfold maxLen; omega
   . have hk : (d.f 0).n = 5:=by simpa using hb
     refine zu (Sub.own (t:=3) (e:=9) rfl rfl) ?_
     refine zv (fun j st => ∃ i,i + j = (d.f 3).l.length /\ Sub (cx EN Tryz.prog s w he) st (HzL d (fun i => valT k (gD (d.f 3).l i)) i)) (d.f 3).l.length ⟨0,by omega,?_⟩ ?_
     . exact Sub.live ⟨rfl,rfl,rfl,rfl,rfl,trivial⟩ ⟨rfl,rfl,trivial⟩
     . rintro j st ⟨i,hij,hs2⟩
       refine zu hs2 ?_
       have htk:=zAC (fun i => valT k (gD (d.f 3).l i)) i
       have ih2:=fun (h : decide ((i : Int) < (d.f 3).l.length) = true) => ih i (by simpa using h)
       have hjl2 : decide ((i : Int) < (d.f 3).l.length) = false -> AC EN Tryz.prog 59 [.sl 9 (zq (fun i => valT k (gD (d.f 3).l i)) i),.c (.string (bs [44,32]))] (.c (.string (bs (Lib.join (txs (zq (fun i => valT k (gD (d.f 3).l i)) (d.f 3).l.length)) [44,32])))):=fun h => by
        have e : i = (d.f 3).l.length:=by simp at h; omega
        rw [e]; exact hjl
       repeat' (first
|refine zB ?_
|refine zC ?_
|refine zQ ?_
|refine zU ?_
|apply aw_1
 conv => whnf
 refine ⟨?_,trivial⟩
|apply s_1
 conv => whnf; arg 1; arg 4; arg 3; whnf
 refine ⟨?_,?_⟩
|apply zl rfl
 . conv => lhs; whnf
 . conv => lhs; whnf
 . first | exact ih2 ‹_› | exact hjl2 ‹_›
|apply zz rfl rfl rfl
 . conv => lhs; whnf
 . conv => lhs; whnf; arg 1; whnf
 . conv => lhs; whnf; arg 1; whnf
 . exact ⟨by kernel_rfl,by kernel_rfl⟩
 . rfl
|apply zCC rfl rfl
 . conv => lhs; whnf
 . first | exact zAK | (conv => lhs; whnf; arg 1; whnf)
 . first | exact fun _ => rfl | (intro _; kernel_rfl)
 . conv => lhs; whnf
 . conv => lhs; whnf; arg 1; whnf
 . conv => lhs; whnf
|apply zBQ rfl rfl
 . conv => lhs; whnf
 . first | exact zAK | (conv => lhs; whnf; arg 1; whnf)
 . conv => lhs; whnf; arg 1; whnf
 . rfl
 . rfl
|refine zV (by conv => lhs; whnf) ?_ ?_ <;> intro hb
|refine zI ?_
|refine zN ?_
|refine zL ?_
|refine zE rfl ?_
|refine zG ?_
|refine zD ?_
|refine ⟨_,by conv => lhs; whnf; arg 2; whnf,?_⟩; conv => rhs; whnf
|exact trivial)
       . have hi:=zAW hb
         refine zF (j':=j - 1) (by omega) ⟨i + 1,by omega,Sub.live ⟨rfl,?_,rfl,rfl,rfl,trivial⟩ ⟨rfl,?_,trivial⟩⟩
         . show V.own 3 _ (zq _ i ++ [.str (bs _)]) = _
           rw [<- zr]
         . show some (Res.tok _ ((zq _ i).length + 1)) = _
           rw [zr,List.length_append]; rfl
       . exact zo (by omega)
       . exact zBZ (by omega) (by omega)
       . exact zC3 hb
       . rw [zGF hk,zAU,<- zR,<- zR]; rfl
       . rw [zAU]; exact sz3 hit
       . rw [zAU]; exact sz2 hit
   . have hk : (d.f 0).n = 6:=by simpa using hb
     refine zu (Sub.own (t:=3) (e:=9) rfl rfl) ?_
     refine zv (fun j st => ∃ i,i + j = min (d.f 4).l.length (d.f 3).l.length /\ Sub (cx EN Tryz.prog s w he) st (HzO d (fun i => tx (gD (d.f 4).l i).s ++ [58,32] ++ valT k (gD (d.f 3).l i)) i)) (min (d.f 4).l.length (d.f 3).l.length) ⟨0,by omega,?_⟩ ?_
     . exact Sub.live ⟨rfl,rfl,rfl,rfl,trivial⟩ ⟨rfl,rfl,trivial⟩
     . rintro j st ⟨i,hij,hs2⟩
       refine zu hs2 ?_
       have htk:=zAC (fun i => tx (gD (d.f 4).l i).s ++ [58,32] ++ valT k (gD (d.f 3).l i)) i
       have hlt : decide ((i : Int) < mI (d.f 4).l.length (d.f 3).l.length) = true -> i < (d.f 3).l.length /\ i < (d.f 4).l.length:=fun h => by
        rw [mI_eq] at h
        have:=zAW h
        omega
       have ih2:=fun (h : decide ((i : Int) < mI (d.f 4).l.length (d.f 3).l.length) = true) => ih i (hlt h).1
       have hjo2 : decide ((i : Int) < mI (d.f 4).l.length (d.f 3).l.length) = false -> AC EN Tryz.prog 59 [.sl 9 (zq (fun i => tx (gD (d.f 4).l i).s ++ [58,32] ++ valT k (gD (d.f 3).l i)) i),.c (.string (bs [44,32]))] (.c (.string (bs (Lib.join (txs (zq (fun i => tx (gD (d.f 4).l i).s ++ [58,32] ++ valT k (gD (d.f 3).l i)) (min (d.f 4).l.length (d.f 3).l.length))) [44,32])))):=fun h => by
        rw [mI_eq] at h
        have e : i = min (d.f 4).l.length (d.f 3).l.length:=by have:=zCK h; omega
        rw [e]; exact hjo
       have hks : i < (d.f 4).l.length -> (gD (d.f 4).l i).s.size <= 8388608:=fun hi => by
        have:=zAG (gD (d.f 4).l i)
        have:=zZ (gD (d.f 4).l i)
        have:=zBF hi
        have:=zZ d
        omega
       have hvs : i < (d.f 3).l.length -> (valT k (gD (d.f 3).l i)).length <= 208000000:=fun hi => by
        have:=zBL k _ ((hw.f 3).l i)
        have:=zBF hi
        have:=zZ d
        omega
       repeat' (first
|refine zB ?_
|refine zC ?_
|refine zQ ?_
|refine zU ?_
|apply aw_1
 conv => whnf
 refine ⟨?_,trivial⟩
|apply s_1
 conv => whnf; arg 1; arg 4; arg 3; whnf
 refine ⟨?_,?_⟩
|apply zl rfl
 . conv => lhs; whnf
 . conv => lhs; whnf
 . first | exact ih2 ‹_› | exact hjo2 ‹_›
|apply zAJ (by kernel_rfl) (by kernel_rfl)
|apply zAx
|apply zAw rfl
 . conv => lhs; whnf
 . conv => lhs; whnf; arg 2; whnf
|apply zAq rfl
 . conv => lhs; whnf
 . conv => lhs; whnf
 . first | exact ih2 ‹_› | exact hjo2 ‹_›
|apply zED rfl rfl
 . conv => lhs; whnf
 . first | exact zAK | (conv => lhs; whnf; arg 1; whnf)
 . first | exact fun _ => rfl | (intro _; kernel_rfl)
 . conv => lhs; whnf
 . rfl
 . rfl
 . conv => lhs; whnf; arg 1; whnf
 . conv => lhs; whnf
|apply zCO rfl rfl
 . conv => lhs; whnf
 . first | exact zAK | (conv => lhs; whnf; arg 1; whnf)
 . conv => lhs; whnf; arg 1; whnf
 . rfl
 . rfl
|exact zd
|show zBH _ _ = true; rfl
|refine zV (by conv => lhs; whnf) ?_ ?_ <;> intro hb
|refine zI ?_
|refine zN ?_
|refine zL ?_
|refine zE rfl ?_
|refine zG ?_
|refine zD ?_
|refine ⟨_,by conv => lhs; whnf; arg 2; whnf,?_⟩; conv => rhs; whnf
|exact trivial)
       . refine zF (j':=j - 1) (by have:=hlt hb; omega) ⟨i + 1,by have:=hlt hb; omega,Sub.live ⟨rfl,?_,rfl,rfl,trivial⟩ ⟨rfl,?_,trivial⟩⟩
         . show V.own 3 _ (zq _ i ++ [.str ((gD (d.f 4).l i).s ++ ⟨#[58,32]⟩ ++ bs _)]) = _
           rw [zr,<- zR,<- zR,zA4]; rfl
         . show some (Res.tok _ ((zq _ i).length + 1)) = _
           rw [zr,List.length_append]; rfl
       . exact zo (by have:=hlt hb; omega)
       . exact zBZ (by have:=hlt hb; omega) (by omega)
       . have h1:=hks (hlt hb).2
         have h2:=hvs (hlt hb).1
         rw [ByteArray.size_append,zS]
         show (gD (d.f 4).l i).s.size + 2 + _ <= _
         unfold maxLen; omega
       . have:=(hlt hb).1
         exact ⟨by omega,by show (i : Int) < ((d.f 3).l.length : Int); omega⟩
       . have h1:=hks (hlt hb).2
         show (gD (d.f 4).l i).s.size + 2 <= _
         unfold maxLen; omega
       . have:=(hlt hb).2
         exact ⟨by omega,by show (i : Int) < ((d.f 4).l.length : Int); omega⟩
       . rw [zFY hk,zAU,<- zR,<- zR]; rfl
       . rw [zAU]; exact sz3 hen
       . rw [zAU]; exact sz2 hen
   . rename_i h0 h1 h2 h3 h4 h5
     rw [valT,if_neg (by simpa using h0),if_neg (by simpa using h1),if_neg (by simpa using h2),if_neg (by simpa using h3),if_neg (by simpa using h4),if_neg (by simpa using h5),if_neg (by simpa using hb)]; rfl
noncomputable def HrL (d : D) (f : Nat -> List UInt8) (i : Nat) : Vst 91:=
 stS 91 [(1,.bx 1 0),(3,.own 3 9 (zq f i)),(4,.c (.int .i64 i))] [(1,.box 84 (cellsV Tryz.prog 12 84 d)),(3,.tok 9 (zq f i).length)]
noncomputable def HrO (d : D) (f : Nat -> List UInt8) (i : Nat) : Vst 91:=
 stS 91 [(1,.bx 1 0),(5,.own 5 9 (zq f i)),(6,.c (.int .i64 i))] [(1,.box 84 (cellsV Tryz.prog 12 84 d)),(5,.tok 9 (zq f i).length)]
theorem zC7 : ∀ (k : Nat) (d : D),Dp k d -> wideD d -> bulkD d <= 8388608 -> AC EN Tryz.prog 125 [.agg (cellsV Tryz.prog 12 84 d)] (.c (.string (bs (valT k d))))
 | 0,_,h,_,_ => h.elim
 | k + 1,d,h,hw,hb => by
   obtain ⟨hs,hl3,hl4⟩:=zHs d hb
   have hn:=(hw.f 1).n
   have hdec:=zCJ (d.f 1).n hn.1 hn.2
   have hq:=quoteR_ac (d.f 2).s hs
   have hit:=zGE k d hw hb
   have hen:=zEJ k d hw hb
   have ih : ∀ i,i < (d.f 3).l.length -> AC EN Tryz.prog 125 [.agg (cellsV Tryz.prog 12 84 (gD (d.f 3).l i))] (.c (.string (bs (valT k (gD (d.f 3).l i))))):=fun i hi =>
    zC7 k _ (h i hi) ((hw.f 3).l i) (by have:=zBF hi; have:=zZ d; omega)
   have hjl:=zD7 (zq (fun i => valT k (gD (d.f 3).l i)) (d.f 3).l.length) [44,32] (by rw [zAC]; omega) (by rw [zAU]; exact Nat.le_trans hit (by omega)) (by decide)
   have hjo:=zD7 (zq (fun i => tx (gD (d.f 4).l i).s ++ [58,32] ++ valT k (gD (d.f 3).l i)) (min (d.f 4).l.length (d.f 3).l.length)) [44,32] (by rw [zAC]; omega) (by rw [zAU]; exact Nat.le_trans hen (by omega)) (by decide)
   refine zO 91 Tryz.func125 rfl rfl rfl rfl ?_
   intro s w he
   repeat' (first
|refine zB ?_
|refine zC ?_
|refine zQ ?_
|refine zU ?_
|apply aw_1
 conv => whnf
 refine ⟨?_,trivial⟩
|apply s_1
 conv => whnf; arg 1; arg 4; arg 3; whnf
 refine ⟨?_,?_⟩
|apply zl rfl
 . conv => lhs; whnf
 . conv => lhs; whnf
 . first | exact hdec | exact hq
|apply zAN rfl rfl rfl rfl
 . conv => lhs; whnf; arg 1; whnf
 . rfl
|refine zV (by conv => lhs; whnf) ?_ ?_ <;> intro hb
|refine zN ?_
|refine zL ?_
|refine zD ?_
|refine ⟨_,by conv => lhs; whnf; arg 2; whnf,?_⟩; conv => rhs; whnf
|exact trivial)
   . rename_i h0
     rw [valT,if_pos (by simpa using h0),if_pos (by simpa using hb)]; rfl
   . rename_i h0
     rw [valT,if_pos (by simpa using h0),if_neg (by simpa using hb)]; rfl
   . rename_i h0
     rw [valT,if_neg (by simpa using h0),if_pos (by simpa using hb)]
   . rename_i h0 h1
     rw [valT,if_neg (by simpa using h0),if_neg (by simpa using h1),if_pos (by simpa using hb)]
   . rename_i h0 h1 h2
     rw [valT,if_neg (by simpa using h0),if_neg (by simpa using h1),if_neg (by simpa using h2),if_pos (by simpa using hb),zA4]
   . rename_i h0 h1 h2 h3
     rw [valT,if_neg (by simpa using h0),if_neg (by simpa using h1),if_neg (by simpa using h2),if_neg (by simpa using h3),if_pos (by simpa using hb),<- zR,zA4]; rfl
   . have : (d.f (0 + 1 + 1)).s.size <= 8388608:=hs
     show 1 + _ <= _
     unfold maxLen; omega
   . have hk : (d.f 0).n = 5:=by simpa using hb
     refine zu (Sub.own (t:=3) (e:=9) rfl rfl) ?_
     refine zv (fun j st => ∃ i,i + j = (d.f 3).l.length /\ Sub (cx EN Tryz.prog s w he) st (HrL d (fun i => valT k (gD (d.f 3).l i)) i)) (d.f 3).l.length ⟨0,by omega,?_⟩ ?_
     . exact Sub.live ⟨rfl,rfl,rfl,trivial⟩ ⟨rfl,rfl,trivial⟩
     . rintro j st ⟨i,hij,hs2⟩
       refine zu hs2 ?_
       have htk:=zAC (fun i => valT k (gD (d.f 3).l i)) i
       have ih2:=fun (h : decide ((i : Int) < (d.f 3).l.length) = true) => ih i (by simpa using h)
       have hjl2 : decide ((i : Int) < (d.f 3).l.length) = false -> AC EN Tryz.prog 205 [.sl 9 (zq (fun i => valT k (gD (d.f 3).l i)) i),.c (.string (bs [44,32]))] (.c (.string (bs (Lib.join (txs (zq (fun i => valT k (gD (d.f 3).l i)) (d.f 3).l.length)) [44,32])))):=fun h => by
        have e : i = (d.f 3).l.length:=by simp at h; omega
        rw [e]; exact hjl
       repeat' (first
|refine zB ?_
|refine zC ?_
|refine zQ ?_
|refine zU ?_
|apply aw_1
 conv => whnf
 refine ⟨?_,trivial⟩
|apply s_1
 conv => whnf; arg 1; arg 4; arg 3; whnf
 refine ⟨?_,?_⟩
|apply zl rfl
 . conv => lhs; whnf
 . conv => lhs; whnf
 . first | exact ih2 ‹_› | exact hjl2 ‹_›
|apply zCC rfl rfl
 . conv => lhs; whnf
 . first | exact zAK | (conv => lhs; whnf; arg 1; whnf)
 . first | exact fun _ => rfl | (intro _; kernel_rfl)
 . conv => lhs; whnf
 . conv => lhs; whnf; arg 1; whnf
 . conv => lhs; whnf
|apply zBQ rfl rfl
 . conv => lhs; whnf
 . first | exact zAK | (conv => lhs; whnf; arg 1; whnf)
 . conv => lhs; whnf; arg 1; whnf
 . rfl
 . rfl
|refine zV (by conv => lhs; whnf) ?_ ?_ <;> intro hb
|refine zI ?_
|refine zN ?_
|refine zL ?_
|refine zE rfl ?_
|refine zG ?_
|refine zD ?_
|refine ⟨_,by conv => lhs; whnf; arg 2; whnf,?_⟩; conv => rhs; whnf
|exact trivial)
       . have hi : i < (d.f 3).l.length:=zAW hb
         refine zF (j':=j - 1) (by omega) ⟨i + 1,by omega,Sub.live ⟨rfl,?_,rfl,trivial⟩ ⟨rfl,?_,trivial⟩⟩
         . show V.own 3 _ (zq _ i ++ [.str (bs _)]) = _
           rw [<- zr]
         . show some (Res.tok _ ((zq _ i).length + 1)) = _
           rw [zr,List.length_append]; rfl
       . exact zo (by omega)
       . exact zBZ (by omega) (by omega)
       . exact zC3 hb
       . rw [zGF hk,zAU,<- zR,<- zR]; rfl
       . rw [zAU]; exact sz3 hit
       . rw [zAU]; exact sz2 hit
   . have hk : (d.f 0).n = 6:=by simpa using hb
     refine zu (Sub.own (t:=5) (e:=9) rfl rfl) ?_
     refine zv (fun j st => ∃ i,i + j = min (d.f 4).l.length (d.f 3).l.length /\ Sub (cx EN Tryz.prog s w he) st (HrO d (fun i => tx (gD (d.f 4).l i).s ++ [58,32] ++ valT k (gD (d.f 3).l i)) i)) (min (d.f 4).l.length (d.f 3).l.length) ⟨0,by omega,?_⟩ ?_
     . exact Sub.live ⟨rfl,rfl,rfl,trivial⟩ ⟨rfl,rfl,trivial⟩
     . rintro j st ⟨i,hij,hs2⟩
       refine zu hs2 ?_
       have htk:=zAC (fun i => tx (gD (d.f 4).l i).s ++ [58,32] ++ valT k (gD (d.f 3).l i)) i
       have ih2:=fun (h : decide ((i : Int) < (d.f 3).l.length) = true) => ih i (by simpa using h)
       have hjo2 : (decide ((i : Int) < (d.f 3).l.length) = false \/ decide ((i : Int) < (d.f 4).l.length) = false) -> AC EN Tryz.prog 205 [.sl 9 (zq (fun i => tx (gD (d.f 4).l i).s ++ [58,32] ++ valT k (gD (d.f 3).l i)) i),.c (.string (bs [44,32]))] (.c (.string (bs (Lib.join (txs (zq (fun i => tx (gD (d.f 4).l i).s ++ [58,32] ++ valT k (gD (d.f 3).l i)) (min (d.f 4).l.length (d.f 3).l.length))) [44,32])))):=fun h => by
        have e : i = min (d.f 4).l.length (d.f 3).l.length:=by rcases h with h | h <;> have:=zCK h <;> omega
        rw [e]; exact hjo
       have hks : i < (d.f 4).l.length -> (gD (d.f 4).l i).s.size <= 8388608:=fun hi => by
        have:=zAG (gD (d.f 4).l i)
        have:=zZ (gD (d.f 4).l i)
        have:=zBF hi
        have:=zZ d
        omega
       have hvs : i < (d.f 3).l.length -> (valT k (gD (d.f 3).l i)).length <= 208000000:=fun hi => by
        have:=zBL k _ ((hw.f 3).l i)
        have:=zBF hi
        have:=zZ d
        omega
       repeat' (first
|refine zB ?_
|refine zC ?_
|refine zQ ?_
|refine zU ?_
|apply aw_1
 conv => whnf
 refine ⟨?_,trivial⟩
|apply ze rfl rfl
 . conv => lhs; whnf
 . conv => lhs; whnf
 . first | exact bT1 ‹_› | exact bT2 ‹_›
|apply zm rfl rfl
 . conv => lhs; whnf
 . conv => lhs; whnf
 . first | exact bF1 ‹_› | exact bF2 ‹_›
|apply s_1
 conv => whnf; arg 1; arg 4; arg 3; whnf
 refine ⟨?_,?_⟩
|apply zl rfl
 . conv => lhs; whnf
 . conv => lhs; whnf
 . first | exact ih2 (bT1 ‹_›) | exact hjo2 (.inr ‹_›) | exact hjo2 (.inl (bF1 ‹_›))
|apply zJ rfl
 . conv => lhs; whnf
 . conv => lhs; whnf
 . first | rfl | assumption
 . conv => lhs; whnf; arg 2; whnf
|apply zDH rfl
 . conv => lhs; whnf
 . conv => lhs; whnf
 . first | rfl | assumption
|apply zAF rfl
 . conv => lhs; whnf
 . conv => lhs; whnf
 . conv => lhs; whnf; arg 2; whnf
|apply zAJ (by kernel_rfl) (by kernel_rfl)
|apply zAx
|apply zAw rfl
 . conv => lhs; whnf
 . conv => lhs; whnf; arg 2; whnf
|apply zAq rfl
 . conv => lhs; whnf
 . conv => lhs; whnf
 . first | exact ih2 (bT1 ‹_›) | exact hjo2 (.inr ‹_›) | exact hjo2 (.inl (bF1 ‹_›))
|apply zED rfl rfl
 . conv => lhs; whnf
 . first | exact zAK | (conv => lhs; whnf; arg 1; whnf)
 . first | exact fun _ => rfl | (intro _; kernel_rfl)
 . conv => lhs; whnf
 . rfl
 . rfl
 . conv => lhs; whnf; arg 1; whnf
 . conv => lhs; whnf
|apply zCO rfl rfl
 . conv => lhs; whnf
 . first | exact zAK | (conv => lhs; whnf; arg 1; whnf)
 . conv => lhs; whnf; arg 1; whnf
 . rfl
 . rfl
|exact zd
|show zBH _ _ = true; rfl
|refine zV (by conv => lhs; whnf) ?_ ?_ <;> intro hb
|refine zI ?_
|refine zN ?_
|refine zL ?_
|refine zE rfl ?_
|refine zG ?_
|refine zD ?_
|refine ⟨_,by conv => lhs; whnf; arg 2; whnf,?_⟩; conv => rhs; whnf
|exact trivial
|intro hg)
       . have hi : i < (d.f 3).l.length:=zAW (bT1 hg)
         have hi4 : i < (d.f 4).l.length:=zAW hb
         refine zF (j':=j - 1) (by omega) ⟨i + 1,by omega,Sub.live ⟨rfl,?_,rfl,trivial⟩ ⟨rfl,?_,trivial⟩⟩
         . show V.own 5 _ (zq _ i ++ [.str ((gD (d.f 4).l i).s ++ ⟨#[58,32]⟩ ++ bs _)]) = _
           rw [zr,<- zR,<- zR,zA4]; rfl
         . show some (Res.tok _ ((zq _ i).length + 1)) = _
           rw [zr,List.length_append]; rfl
       . have hi : i < (d.f 3).l.length:=zAW (bT1 hg)
         exact zo (by omega)
       . have hi : i < (d.f 3).l.length:=zAW (bT1 hg)
         exact zBZ (by omega) (by omega)
       . have h1:=hks (zAW hb)
         have h2:=hvs (zAW (bT1 hg))
         rw [ByteArray.size_append,zS]
         show (gD (d.f 4).l i).s.size + 2 + _ <= _
         unfold maxLen; omega
       . exact zC3 (bT1 hg)
       . have h1:=hks (zAW hb)
         show (gD (d.f 4).l i).s.size + 2 <= _
         unfold maxLen; omega
       . exact zC3 hb
       . rw [zFY hk,zAU,<- zR,<- zR]; rfl
       . rw [zAU]; exact sz3 hen
       . rw [zAU]; exact sz2 hen
       . rw [zFY hk,zAU,<- zR,<- zR]; rfl
       . rw [zAU]; exact sz3 hen
       . rw [zAU]; exact sz2 hen
   . rename_i h0 h1 h2 h3 h4 h5
     rw [valT,if_neg (by simpa using h0),if_neg (by simpa using h1),if_neg (by simpa using h2),if_neg (by simpa using h3),if_neg (by simpa using h4),if_neg (by simpa using h5),if_neg (by simpa using hb)]; rfl
structure ArgsOk (k : Nat) (l : List D) : Prop where
 wide : ∀ i,wideD (gD l i)
 bulk : bulkL l <= 8388608
 dp : ∀ i,i < l.length -> Dp k ((gD l i).f 1)
 good : ∀ i,i < l.length -> goodV k ((gD l i).f 1)
structure DirsOk (k : Nat) (l : List D) : Prop where
 wide : ∀ i,wideD (gD l i)
 bulk : bulkL l <= 8388608
 args : ∀ i,i < l.length -> ArgsOk k ((gD l i).f 1).l
theorem zAR (l : List D) : l.length <= bulkL l:=by
 induction l with
 | nil => exact Nat.zero_le _
 | cons x r ih => have:=zAy x; simp only [List.length_cons,bulkL]; omega
theorem zAd (f : D -> List UInt8) (l : List D) : txs (zq (fun i => f (gD l i)) l.length) = l.map f:=by
 rw [zAU]
 apply List.ext_getElem (by simp)
 intro i h1 h2
 simp [zAt (l:=l) (i:=i) (by simpa using h1)]
theorem ArgsOk.val {k : Nat} {l : List D} (h : ArgsOk k l) {i : Nat} (hi : i < l.length) : bulkD ((gD l i).f 1) <= 8388608:=by
 have:=zAH hi
 have:=wD_f (gD l i) 1
 have:=zZ ((gD l i).f 1)
 have:=zZ (gD l i)
 have:=h.bulk
 omega
theorem ArgsOk.name {k : Nat} {l : List D} (h : ArgsOk k l) {i : Nat} (hi : i < l.length) : ((gD l i).f 0).s.size <= 8388608:=by
 have:=zAH hi
 have:=wD_f (gD l i) 0
 have:=zAG ((gD l i).f 0)
 have:=zZ (gD l i)
 have:=h.bulk
 omega
theorem ArgsOk.text {k : Nat} {l : List D} (h : ArgsOk k l) {i : Nat} (hi : i < l.length) : (valT k ((gD l i).f 1)).length <= 208000000:=by
 have:=h.val hi
 have:=zBL k ((gD l i).f 1) ((h.wide i).f 1)
 omega
theorem DirsOk.name {k : Nat} {l : List D} (h : DirsOk k l) {i : Nat} (hi : i < l.length) : ((gD l i).f 0).s.size <= 8388608:=by
 have:=zAH hi
 have:=wD_f (gD l i) 0
 have:=zAG ((gD l i).f 0)
 have:=zZ (gD l i)
 have:=h.bulk
 omega
theorem DirsOk.par {k : Nat} {l : List D} (h : DirsOk k l) {i : Nat} (hi : i < l.length) : (zDp k ((gD l i).f 1).l).length <= 240000000:=by
 have:=zDW k ((gD l i).f 1).l (h.args i hi).wide
 have:=(h.args i hi).bulk
 omega
theorem ArgsOk.len {k : Nat} {l : List D} (h : ArgsOk k l) : l.length <= 8388608:=Nat.le_trans (zAR l) h.bulk
theorem DirsOk.len {k : Nat} {l : List D} (h : DirsOk k l) : l.length <= 8388608:=Nat.le_trans (zAR l) h.bulk
theorem zFm (k : Nat) (l : List D) : parT k l = if 0 < l.length then [40] ++ zDp k l ++ [41] else []:=by
 unfold parT
 by_cases h : l.length = 0
 . rw [if_pos h,if_neg (by omega)]
 . rw [if_neg h,if_pos (by omega)]
noncomputable def HdP (k : Nat) (l : List D) (i : Nat) : Vst 53:=
 stS 53 [(3,.own 3 9 (zq (fun i => dirT k (gD l i)) i)),(10,.sl 150 l),(11,.c (.int .i64 l.length)),(12,.c (.int .i64 i))] [(3,.tok 9 (zq (fun i => dirT k (gD l i)) i).length)]
noncomputable def HaP (k : Nat) (l : List D) (i m : Nat) : Vst 53:=
 stS 53 [(3,.own 3 9 (zq (fun i => dirT k (gD l i)) i)),(6,.c (.string (⟨#[64]⟩ ++ ((gD l i).f 0).s))),(7,.own 7 9 (zq (fun j => argT k (gD ((gD l i).f 1).l j)) m)),(10,.sl 150 l),(11,.c (.int .i64 l.length)),(12,.c (.int .i64 i)),(20,.sl 86 ((gD l i).f 1).l),(21,.c (.int .i64 ((gD l i).f 1).l.length)),(22,.c (.int .i64 m))]
  [(3,.tok 9 (zq (fun i => dirT k (gD l i)) i).length),(7,.tok 9 (zq (fun j => argT k (gD ((gD l i).f 1).l j)) m).length)]
theorem dirsP_ac (k : Nat) (l : List D) (h : DirsOk k l) : AC EN Tryz.prog 185 [.sl 150 l] (.c (.string (bs (zGq k l)))):=by
 have hlen:=h.len
 have hds:=zCZ k l h.wide
 have hbk:=h.bulk
 have hj:=zB1 (zq (fun i => dirT k (gD l i)) l.length) [32] (by rw [zAC]; omega) (by rw [zAd]; exact Nat.le_trans hds (by omega))
 rw [zAd] at hj
 refine zO 53 Tryz.func185 rfl rfl rfl rfl ?_
 intro s w he
 repeat' (first
|refine zB ?_
|refine zC ?_
|refine zQ ?_
|apply aw_1
 conv => whnf
 refine ⟨?_,trivial⟩
|apply s_1
 conv => whnf; arg 1; arg 4; arg 3; whnf
 refine ⟨?_,?_⟩
|exact trivial)
 refine zu (Sub.own (t:=3) (e:=9) rfl rfl) ?_
 refine zv (fun j st => ∃ i,i + j = l.length /\ Sub (cx EN Tryz.prog s w he) st (HdP k l i)) l.length ⟨0,by omega,?_⟩ ?_
 . exact Sub.live ⟨rfl,rfl,rfl,rfl,trivial⟩ ⟨rfl,trivial⟩
 . rintro j st ⟨i,hij,hs2⟩
   refine zu hs2 ?_
   have htk:=zAC (fun i => dirT k (gD l i)) i
   have hj2 : decide ((i : Int) < (l.length : Int)) = false -> AC EN Tryz.prog 59 [.sl 9 (zq (fun i => dirT k (gD l i)) i),.c (.string (bs [32]))] (.c (.string (bs (zGq k l)))):=fun hh => by
    have e : i = l.length:=by have:=zCK hh; omega
    rw [e]; exact hj
   have hnm : i < l.length -> ((gD l i).f 0).s.size <= 8388608:=fun hi => h.name hi
   repeat' (first
|refine zB ?_
|refine zC ?_
|refine zQ ?_
|apply aw_1
 conv => whnf
 refine ⟨?_,trivial⟩
|apply s_1
 conv => whnf; arg 1; arg 4; arg 3; whnf
 refine ⟨?_,?_⟩
|apply zl rfl
 . conv => lhs; whnf
 . conv => lhs; whnf
 . first | exact hj2 ‹_›
|apply zz rfl rfl rfl
 . conv => lhs; whnf
 . conv => lhs; whnf; arg 1; whnf
 . conv => lhs; whnf; arg 1; whnf
 . exact ⟨by kernel_rfl,by kernel_rfl⟩
 . rfl
|refine zV (by conv => lhs; whnf) ?_ ?_ <;> intro hb
|refine zI ?_
|refine zE rfl ?_
|refine zG ?_
|refine zD ?_
|refine ⟨_,by conv => lhs; whnf; arg 2; whnf,?_⟩; conv => rhs; whnf
|exact trivial)
   . have hi:=zAW hb
     have ha:=h.args i hi
     have hla:=ha.len
     have hpar:=h.par hi
     have hja:=zB1 (zq (fun j => argT k (gD ((gD l i).f 1).l j)) ((gD l i).f 1).l.length) [44,32] (by rw [zAC]; omega) (by rw [zAd]; exact Nat.le_trans hpar (by omega))
     rw [zAd] at hja
     refine zu (Sub.own (t:=7) (e:=9) rfl rfl) ?_
     refine zv (fun j st => ∃ m,m + j = ((gD l i).f 1).l.length /\ Sub (cx EN Tryz.prog s w he) st (HaP k l i m)) ((gD l i).f 1).l.length ⟨0,by omega,?_⟩ ?_
     . exact Sub.live ⟨rfl,rfl,rfl,rfl,rfl,rfl,rfl,rfl,rfl,trivial⟩ ⟨rfl,rfl,trivial⟩
     . rintro j2 st2 ⟨m,hmj,hs3⟩
       refine zu hs3 ?_
       have htk2:=zAC (fun j => argT k (gD ((gD l i).f 1).l j)) m
       have hv : decide ((m : Int) < (((gD l i).f 1).l.length : Int)) = true -> AC EN Tryz.prog 122 [.agg (cellsV Tryz.prog 12 84 ((gD ((gD l i).f 1).l m).f 1))] (.c (.string (bs (valT k ((gD ((gD l i).f 1).l m).f 1))))):=fun hh =>
        zC9 k _ (ha.dp m (zAW hh)) ((ha.wide m).f 1) (ha.good m (zAW hh)) (ha.val (zAW hh))
       have hja2 : decide ((m : Int) < (((gD l i).f 1).l.length : Int)) = false -> AC EN Tryz.prog 59 [.sl 9 (zq (fun j => argT k (gD ((gD l i).f 1).l j)) m),.c (.string (bs [44,32]))] (.c (.string (bs (zDp k ((gD l i).f 1).l)))):=fun hh => by
        have e : m = ((gD l i).f 1).l.length:=by have:=zCK hh; omega
        rw [e]; exact hja
       repeat' (first
|refine zB ?_
|refine zC ?_
|refine zQ ?_
|refine zU ?_
|apply aw_1
 conv => whnf
 refine ⟨?_,trivial⟩
|apply s_1
 conv => whnf; arg 1; arg 4; arg 3; whnf
 refine ⟨?_,?_⟩
|apply zl rfl
 . conv => lhs; whnf
 . conv => lhs; whnf
 . first | exact hv ‹_› | exact hja2 ‹_›
|apply zz rfl rfl rfl
 . conv => lhs; whnf
 . conv => lhs; whnf; arg 1; whnf
 . conv => lhs; whnf; arg 1; whnf
 . exact ⟨by kernel_rfl,by kernel_rfl⟩
 . rfl
|apply zCC rfl rfl
 . conv => lhs; whnf
 . first | exact zAK | (conv => lhs; whnf; arg 1; whnf)
 . first | exact fun _ => rfl | (intro _; kernel_rfl)
 . conv => lhs; whnf
 . conv => lhs; whnf; arg 1; whnf
 . conv => lhs; whnf
|apply zBQ rfl rfl
 . conv => lhs; whnf
 . first | exact zAK | (conv => lhs; whnf; arg 1; whnf)
 . conv => lhs; whnf; arg 1; whnf
 . rfl
 . rfl
|apply zAJ (by kernel_rfl) (by kernel_rfl)
|apply zAx
|apply zAw rfl
 . conv => lhs; whnf
 . conv => lhs; whnf; arg 2; whnf
|apply zAq rfl
 . conv => lhs; whnf
 . conv => lhs; whnf
 . first | exact hv ‹_› | exact hja2 ‹_›
|apply zED rfl rfl
 . conv => lhs; whnf
 . first | exact zAK | (conv => lhs; whnf; arg 1; whnf)
 . first | exact fun _ => rfl | (intro _; kernel_rfl)
 . conv => lhs; whnf
 . rfl
 . rfl
 . conv => lhs; whnf; arg 1; whnf
 . conv => lhs; whnf
|apply zCO rfl rfl
 . conv => lhs; whnf
 . first | exact zAK | (conv => lhs; whnf; arg 1; whnf)
 . conv => lhs; whnf; arg 1; whnf
 . rfl
 . rfl
|exact zd
|show zBH _ _ = true; rfl
|refine zV (by conv => lhs; whnf) ?_ ?_ <;> intro hb
|refine zI ?_
|refine zE rfl ?_
|refine zG ?_
|exact trivial)
       . have hm:=zAW hb
         refine zF (j':=j2 - 1) (by omega) ⟨m + 1,by omega,Sub.live ⟨rfl,rfl,?_,rfl,rfl,rfl,rfl,rfl,rfl,trivial⟩ ⟨rfl,?_,trivial⟩⟩
         . show V.own 7 _ (zq _ m ++ [.str (((gD ((gD l i).f 1).l m).f 0).s ++ ⟨#[58,32]⟩ ++ bs _)]) = _
           rw [zr,argT,<- zR,<- zR,zA4]; rfl
         . show some (Res.tok _ ((zq _ m).length + 1)) = _
           rw [zr,List.length_append]; rfl
       . exact zo (by have:=zAW hb; omega)
       . exact zBZ (by have:=zAW hb; omega) (by omega)
       . have h1:=ha.name (zAW hb)
         have h2:=ha.text (zAW hb)
         (simp only [ByteArray.size_append,zS,zT,List.size_toArray,List.length_append,List.length_cons,List.length_nil,maxLen,Nat.reduceAdd,Int.toNat_natCast]; omega)
       . have h1:=ha.name (zAW hb)
         (simp only [ByteArray.size_append,zS,zT,List.size_toArray,List.length_append,List.length_cons,List.length_nil,maxLen,Nat.reduceAdd,Int.toNat_natCast]; omega)
       . exact zC3 hb
       . rename_i hb0
         have e : m = ((gD l i).f 1).l.length:=by have:=zCK hb0; omega
         have hp : 0 < ((gD l i).f 1).l.length:=by rw [htk2] at hb; have:=of_decide_eq_true hb; omega
         refine zF (j':=j - 1) (by omega) ⟨i + 1,by omega,Sub.live ⟨?_,rfl,rfl,rfl,trivial⟩ ⟨?_,trivial⟩⟩
         . show V.own 3 _ (zq _ i ++ [.str (⟨#[64]⟩ ++ ((gD l i).f 0).s ++ (⟨#[40]⟩ ++ bs (zDp k ((gD l i).f 1).l) ++ ⟨#[41]⟩))]) = _
           rw [zr,dirT,zFm,if_pos hp,<- zR,<- zR,<- zR,<- zR,zA4]; rfl
         . show some (Res.tok _ ((zq _ i).length + 1)) = _
           rw [zr,List.length_append]; rfl
       . exact zo (by omega)
       . exact zBZ (by omega) (by omega)
       . have:=hnm hi
         (simp only [ByteArray.size_append,zS,zT,List.size_toArray,List.length_append,List.length_cons,List.length_nil,maxLen,Nat.reduceAdd,Int.toNat_natCast]; omega)
       . (simp only [ByteArray.size_append,zS,zT,List.size_toArray,List.length_append,List.length_cons,List.length_nil,maxLen,Nat.reduceAdd,Int.toNat_natCast]; omega)
       . (simp only [ByteArray.size_append,zS,zT,List.size_toArray,List.length_append,List.length_cons,List.length_nil,maxLen,Nat.reduceAdd,Int.toNat_natCast]; omega)
       . rename_i hb0
         have e : m = ((gD l i).f 1).l.length:=by have:=zCK hb0; omega
         have hp : ¬ 0 < ((gD l i).f 1).l.length:=by rw [htk2] at hb; have:=of_decide_eq_false hb; omega
         refine zF (j':=j - 1) (by omega) ⟨i + 1,by omega,Sub.live ⟨?_,rfl,rfl,rfl,trivial⟩ ⟨?_,trivial⟩⟩
         . show V.own 3 _ (zq _ i ++ [.str (⟨#[64]⟩ ++ ((gD l i).f 0).s)]) = _
           rw [zr,dirT,zFm,if_neg hp,List.append_nil,<- zR,zA4]; rfl
         . show some (Res.tok _ ((zq _ i).length + 1)) = _
           rw [zr,List.length_append]; rfl
       . exact zo (by omega)
       . exact zBZ (by omega) (by omega)
   . have:=hnm (zAW hb)
     show 1 + ((gD l i).f 0).s.size <= _
     unfold maxLen; omega
   . exact zC3 hb
noncomputable def HdR (k : Nat) (l : List D) (i : Nat) : Vst 69:=
 stS 69 [(0,.sl 150 l),(3,.own 3 9 (zq (fun i => dirT k (gD l i)) i)),(4,.c (.int .i64 i))] [(3,.tok 9 (zq (fun i => dirT k (gD l i)) i).length)]
noncomputable def HaR (k : Nat) (l : List D) (i m : Nat) : Vst 69:=
 stS 69 [(0,.sl 150 l),(3,.own 3 9 (zq (fun i => dirT k (gD l i)) i)),(4,.c (.int .i64 i)),(5,.own 5 9 (zq (fun j => argT k (gD ((gD l i).f 1).l j)) m)),(6,.c (.int .i64 m))]
  [(3,.tok 9 (zq (fun i => dirT k (gD l i)) i).length),(5,.tok 9 (zq (fun j => argT k (gD ((gD l i).f 1).l j)) m).length)]
theorem dirsR_ac (k : Nat) (l : List D) (h : DirsOk k l) : AC EN Tryz.prog 199 [.sl 150 l] (.c (.string (bs (zGq k l)))):=by
 have hlen:=h.len
 have hds:=zCZ k l h.wide
 have hbk:=h.bulk
 have hj:=zD7 (zq (fun i => dirT k (gD l i)) l.length) [32] (by rw [zAC]; omega) (by rw [zAd]; exact Nat.le_trans hds (by omega)) (by decide)
 rw [zAd] at hj
 refine zO 69 Tryz.func199 rfl rfl rfl rfl ?_
 intro s w he
 repeat' (first
|refine zB ?_
|refine zC ?_
|refine zQ ?_
|apply aw_1
 conv => whnf
 refine ⟨?_,trivial⟩
|apply s_1
 conv => whnf; arg 1; arg 4; arg 3; whnf
 refine ⟨?_,?_⟩
|exact trivial)
 refine zu (Sub.own (t:=3) (e:=9) rfl rfl) ?_
 refine zv (fun j st => ∃ i,i + j = l.length /\ Sub (cx EN Tryz.prog s w he) st (HdR k l i)) l.length ⟨0,by omega,?_⟩ ?_
 . exact Sub.live ⟨rfl,rfl,rfl,trivial⟩ ⟨rfl,trivial⟩
 . rintro j st ⟨i,hij,hs2⟩
   refine zu hs2 ?_
   have htk:=zAC (fun i => dirT k (gD l i)) i
   have hj2 : decide ((i : Int) < (l.length : Int)) = false -> AC EN Tryz.prog 205 [.sl 9 (zq (fun i => dirT k (gD l i)) i),.c (.string (bs [32]))] (.c (.string (bs (zGq k l)))):=fun hh => by
    have e : i = l.length:=by have:=zCK hh; omega
    rw [e]; exact hj
   have hnm : i < l.length -> ((gD l i).f 0).s.size <= 8388608:=fun hi => h.name hi
   repeat' (first
|refine zB ?_
|refine zC ?_
|refine zQ ?_
|apply aw_1
 conv => whnf
 refine ⟨?_,trivial⟩
|apply s_1
 conv => whnf; arg 1; arg 4; arg 3; whnf
 refine ⟨?_,?_⟩
|apply zl rfl
 . conv => lhs; whnf
 . conv => lhs; whnf
 . first | exact hj2 ‹_›
|refine zV (by conv => lhs; whnf) ?_ ?_ <;> intro hb
|refine zI ?_
|refine zE rfl ?_
|refine zG ?_
|refine zD ?_
|refine ⟨_,by conv => lhs; whnf; arg 2; whnf,?_⟩; conv => rhs; whnf
|exact trivial)
   . have hi:=zAW hb
     have ha:=h.args i hi
     have hla:=ha.len
     have hpar:=h.par hi
     have hja:=zD7 (zq (fun j => argT k (gD ((gD l i).f 1).l j)) ((gD l i).f 1).l.length) [44,32] (by rw [zAC]; omega) (by rw [zAd]; exact Nat.le_trans hpar (by omega)) (by decide)
     rw [zAd] at hja
     refine zu (Sub.own (t:=5) (e:=9) rfl rfl) ?_
     refine zv (fun j st => ∃ m,m + j = ((gD l i).f 1).l.length /\ Sub (cx EN Tryz.prog s w he) st (HaR k l i m)) ((gD l i).f 1).l.length ⟨0,by omega,?_⟩ ?_
     . exact Sub.live ⟨rfl,rfl,rfl,rfl,rfl,trivial⟩ ⟨rfl,rfl,trivial⟩
     . rintro j2 st2 ⟨m,hmj,hs3⟩
       refine zu hs3 ?_
       have htk2:=zAC (fun j => argT k (gD ((gD l i).f 1).l j)) m
       have hv : decide ((m : Int) < (((gD l i).f 1).l.length : Int)) = true -> AC EN Tryz.prog 125 [.agg (cellsV Tryz.prog 12 84 ((gD ((gD l i).f 1).l m).f 1))] (.c (.string (bs (valT k ((gD ((gD l i).f 1).l m).f 1))))):=fun hh =>
        zC7 k _ (ha.dp m (zAW hh)) ((ha.wide m).f 1) (ha.val (zAW hh))
       have hja2 : decide ((m : Int) < (((gD l i).f 1).l.length : Int)) = false -> AC EN Tryz.prog 205 [.sl 9 (zq (fun j => argT k (gD ((gD l i).f 1).l j)) m),.c (.string (bs [44,32]))] (.c (.string (bs (zDp k ((gD l i).f 1).l)))):=fun hh => by
        have e : m = ((gD l i).f 1).l.length:=by have:=zCK hh; omega
        rw [e]; exact hja
       repeat' (first
|refine zB ?_
|refine zC ?_
|refine zQ ?_
|refine zU ?_
|apply aw_1
 conv => whnf
 refine ⟨?_,trivial⟩
|apply s_1
 conv => whnf; arg 1; arg 4; arg 3; whnf
 refine ⟨?_,?_⟩
|apply zl rfl
 . conv => lhs; whnf
 . conv => lhs; whnf
 . first | exact hv ‹_› | exact hja2 ‹_›
|apply zCC rfl rfl
 . conv => lhs; whnf
 . first | exact zAK | (conv => lhs; whnf; arg 1; whnf)
 . first | exact fun _ => rfl | (intro _; kernel_rfl)
 . conv => lhs; whnf
 . conv => lhs; whnf; arg 1; whnf
 . conv => lhs; whnf
|apply zBQ rfl rfl
 . conv => lhs; whnf
 . first | exact zAK | (conv => lhs; whnf; arg 1; whnf)
 . conv => lhs; whnf; arg 1; whnf
 . rfl
 . rfl
|apply zAJ (by kernel_rfl) (by kernel_rfl)
|apply zAx
|apply zAw rfl
 . conv => lhs; whnf
 . conv => lhs; whnf; arg 2; whnf
|apply zAq rfl
 . conv => lhs; whnf
 . conv => lhs; whnf
 . first | exact hv ‹_› | exact hja2 ‹_›
|apply zED rfl rfl
 . conv => lhs; whnf
 . first | exact zAK | (conv => lhs; whnf; arg 1; whnf)
 . first | exact fun _ => rfl | (intro _; kernel_rfl)
 . conv => lhs; whnf
 . rfl
 . rfl
 . conv => lhs; whnf; arg 1; whnf
 . conv => lhs; whnf
|apply zCO rfl rfl
 . conv => lhs; whnf
 . first | exact zAK | (conv => lhs; whnf; arg 1; whnf)
 . conv => lhs; whnf; arg 1; whnf
 . rfl
 . rfl
|exact zd
|refine zV (by conv => lhs; whnf) ?_ ?_ <;> intro hb
|refine zI ?_
|refine zE rfl ?_
|refine zG ?_
|exact trivial)
       . have hm : m < ((gD l i).f 1).l.length:=zAW hb
         refine zF (j':=j2 - 1) (by omega) ⟨m + 1,by omega,Sub.live ⟨rfl,rfl,rfl,?_,rfl,trivial⟩ ⟨rfl,?_,trivial⟩⟩
         . show V.own 5 _ (zq _ m ++ [.str (((gD ((gD l i).f 1).l m).f 0).s ++ ⟨#[58,32]⟩ ++ bs _)]) = _
           rw [zr,argT,<- zR,<- zR,zA4]; rfl
         . show some (Res.tok _ ((zq _ m).length + 1)) = _
           rw [zr,List.length_append]; rfl
       . have hm : m < ((gD l i).f 1).l.length:=zAW hb
         exact zo (by omega)
       . have hm : m < ((gD l i).f 1).l.length:=zAW hb
         exact zBZ (by omega) (by omega)
       . have hm : m < ((gD l i).f 1).l.length:=zAW hb
         have h1:=ha.name hm
         have h2:=ha.text hm
         show (((gD ((gD l i).f 1).l m).f 0).s ++ ⟨#[58,32]⟩).size + (bs (valT k ((gD ((gD l i).f 1).l m).f 1))).size <= maxLen
         (simp only [ByteArray.size_append,zS,zT,List.size_toArray,List.length_append,List.length_cons,List.length_nil,maxLen,Nat.reduceAdd,Int.toNat_natCast]; omega)
       . exact zC3 hb
       . exact ⟨by omega,by omega⟩
       . have hm : m < ((gD l i).f 1).l.length:=zAW hb
         have h1:=ha.name hm
         show ((gD ((gD l i).f 1).l m).f 0).s.size + (⟨#[58,32]⟩ : ByteArray).size <= maxLen
         (simp only [ByteArray.size_append,zS,zT,List.size_toArray,List.length_append,List.length_cons,List.length_nil,maxLen,Nat.reduceAdd,Int.toNat_natCast]; omega)
       . exact zC3 hb
       . exact ⟨by omega,by omega⟩
       . rename_i hb0
         have e : m = ((gD l i).f 1).l.length:=by have : ((gD l i).f 1).l.length <= m:=zCK hb0
                                                  omega
         have hp : 0 < ((gD l i).f 1).l.length:=by rw [htk2] at hb; have:=of_decide_eq_true hb; omega
         refine zF (j':=j - 1) (by omega) ⟨i + 1,by omega,Sub.live ⟨rfl,?_,rfl,trivial⟩ ⟨?_,trivial⟩⟩
         . show V.own 3 _ (zq _ i ++ [.str (⟨#[64]⟩ ++ ((gD l i).f 0).s ++ ⟨#[40]⟩ ++ bs (zDp k ((gD l i).f 1).l) ++ ⟨#[41]⟩)]) = _
           rw [zr,dirT,zFm,if_pos hp,<- zR,<- zR,<- zR,<- zR,zA4,ByteArray.append_assoc,ByteArray.append_assoc,ByteArray.append_assoc,ByteArray.append_assoc,ByteArray.append_assoc]; rfl
         . show some (Res.tok _ ((zq _ i).length + 1)) = _
           rw [zr,List.length_append]; rfl
       . exact zo (by omega)
       . exact zBZ (by omega) (by omega)
       . have:=hnm hi
         show ((⟨#[64]⟩ : ByteArray) ++ ((gD l i).f 0).s ++ ⟨#[40]⟩ ++ bs (zDp k ((gD l i).f 1).l)).size + (⟨#[41]⟩ : ByteArray).size <= maxLen
         (simp only [ByteArray.size_append,zS,zT,List.size_toArray,List.length_append,List.length_cons,List.length_nil,maxLen,Nat.reduceAdd,Int.toNat_natCast]; omega)
       . have:=hnm hi
         show ((⟨#[64]⟩ : ByteArray) ++ ((gD l i).f 0).s ++ ⟨#[40]⟩).size + (bs (zDp k ((gD l i).f 1).l)).size <= maxLen
         (simp only [ByteArray.size_append,zS,zT,List.size_toArray,List.length_append,List.length_cons,List.length_nil,maxLen,Nat.reduceAdd,Int.toNat_natCast]; omega)
       . have:=hnm hi
         show ((⟨#[64]⟩ : ByteArray) ++ ((gD l i).f 0).s).size + (⟨#[40]⟩ : ByteArray).size <= maxLen
         (simp only [ByteArray.size_append,zS,zT,List.size_toArray,List.length_append,List.length_cons,List.length_nil,maxLen,Nat.reduceAdd,Int.toNat_natCast]; omega)
       . rename_i hb0
         have e : m = ((gD l i).f 1).l.length:=by have : ((gD l i).f 1).l.length <= m:=zCK hb0
                                                  omega
         have hp : ¬ 0 < ((gD l i).f 1).l.length:=by rw [htk2] at hb; have:=of_decide_eq_false hb; omega
         refine zF (j':=j - 1) (by omega) ⟨i + 1,by omega,Sub.live ⟨rfl,?_,rfl,trivial⟩ ⟨?_,trivial⟩⟩
         . show V.own 3 _ (zq _ i ++ [.str (⟨#[64]⟩ ++ ((gD l i).f 0).s)]) = _
           rw [zr,dirT,zFm,if_neg hp,List.append_nil,<- zR,zA4]; rfl
         . show some (Res.tok _ ((zq _ i).length + 1)) = _
           rw [zr,List.length_append]; rfl
       . exact zo (by omega)
       . exact zBZ (by omega) (by omega)
       . have:=hnm hi
         show 1 + ((gD l i).f 0).s.size <= maxLen
         unfold maxLen; omega
       . exact ⟨by omega,by omega⟩
       . exact ⟨by omega,by omega⟩
end Go.Proofs.YthjiclhfhjdjpaaGreatDoor
namespace Go.Proofs.YthjiclhfhjdjpaaGreatDoor
def largeB : Nat -> List D -> Bool
 | 0,_ => true
 | k + 1,l => decide (60 < l.length) || l.any fun p => decide (0 < (p.f 7).l.length) && largeB k (p.f 7).l
def CpV : Nat -> D -> Prop
 | 0,_ => False
 | k + 1,d => (d.f 3).l.length <= 1759218604441 /\ (d.f 4).l.length <= 8796093022207 /\ ∀ i,i < (d.f 3).l.length -> CpV k (gD (d.f 3).l i)
def CpA (l : List D) : Prop:=l.length <= 1000000000000 /\ ∀ i,i < l.length -> ∃ k,CpV k ((gD l i).f 1)
def CpP : Nat -> List D -> Prop
 | 0,l => l = []
 | k + 1,l => l.length <= 60 /\ ∀ i,i < l.length -> CpA ((gD l i).f 3).l /\ CpP k ((gD l i).f 7).l
theorem largeB_get {k : Nat} {l : List D} (h : largeB (k + 1) l = false) : l.length <= 60 /\ ∀ i,i < l.length -> ((gD l i).f 7).l = [] \/ largeB k ((gD l i).f 7).l = false:=by
 unfold largeB at h
 rw [Bool.or_eq_false_iff] at h
 refine ⟨by have:=of_decide_eq_false h.1; omega,fun i hi => ?_⟩
 have:=List.any_eq_false.1 h.2 (gD l i) (by rw [zAt hi]; exact List.getElem_mem hi)
 rw [Bool.and_eq_true] at this
 by_cases he : 0 < ((gD l i).f 7).l.length
 . right
   cases hb : largeB k ((gD l i).f 7).l with
   | false => rfl
   | true => exact (this ⟨decide_eq_true he,hb⟩).elim
 . left
   exact List.length_eq_zero_iff.1 (by omega)
theorem cpP_of : ∀ (k : Nat) (l : List D),(l = [] \/ largeB k l = false) -> bulkL l <= 1000000000 -> CpP k l:=by
 have hv : ∀ (n : Nat) (d : D),bulkD d <= n -> n <= 1000000000 -> CpV n d:=by
  intro n
  induction n with
  | zero => intro d h _; have:=zAy d; omega
  | succ n ih =>
    intro d h hn
    have h0:=zZ d
    have h3:=wD_f d 3
    have h3':=z7 (d.f 3)
    have h4:=wD_f d 4
    have h4':=z7 (d.f 4)
    have l3:=zAR (d.f 3).l
    have l4:=zAR (d.f 4).l
    exact ⟨by omega,by omega,fun i hi => ih _ (by have:=zAH hi; omega) (by omega)⟩
 have ha : ∀ (l : List D),bulkL l <= 1000000000 -> CpA l:=fun l h => ⟨by have:=zAR l; omega,fun i hi => ⟨_,hv _ _ (Nat.le_refl _) (by
  have h1:=zAH hi
  have h2:=wD_f (gD l i) 1
  have h3:=zZ (gD l i)
  have h4:=zZ ((gD l i).f 1)
  omega)⟩⟩
 intro k
 induction k with
 | zero => intro l h _; rcases h with h | h; exact h; cases h
 | succ k ih =>
   intro l h hb
   rcases h with rfl | h
   . exact ⟨by simp,fun i hi => absurd hi (Nat.not_lt_zero i)⟩
   . obtain ⟨h1,h2⟩:=largeB_get h
     refine ⟨h1,fun i hi => ?_⟩
     have g:=zAH hi
     have q3:=wD_f (gD l i) 3
     have q3':=z7 ((gD l i).f 3)
     have q7:=wD_f (gD l i) 7
     have q7':=z7 ((gD l i).f 7)
     have q:=zZ (gD l i)
     exact ⟨ha _ (by omega),ih _ (h2 i hi) (by omega)⟩
def anyRef : D:=.obj [.str ⟨#[95,65,110,121]⟩,.list [.int 1,.int 2,.int 1]]
def nullV : D:=.obj [.int 0,.int 0,.str ⟨#[]⟩,.list [],.list []]
def zBY : D:=.obj [.str ⟨#[114]⟩,anyRef,.bool false,nullV]
def entS (sels : List D) : D:=sD31 1 ⟨#[]⟩ ⟨#[95,101,110,116,105,116,105,101,115]⟩ ⟨#[]⟩ [sArg ⟨#[114,101,112,114,101,115,101,110,116,97,116,105,111,110,115]⟩ (vD31 7 0 ⟨#[114]⟩)] [] sels
def opSels (n : Nat) (kind : Int) (l : List D) : List D:=if l = [] then [zDa] else pkS n (zCq kind) l
end Go.Proofs.YthjiclhfhjdjpaaGreatDoor
namespace Go.Proofs.YthjiclhfhjdjpaaGreatDoor
open Go.RowKit
attribute [local irreducible] wpList Calls Code.wp AW AWo OpOk seqK zAf zAh loopK endK endKB AC ACB zAD absLexG Yld YldG Sub
def lfV (d : D) : List V:=[.c (.int .i64 (d.f 0).n),.c (.int .i64 (d.f 1).n),.c (.string (d.f 2).s),.c (.slice none 0 0),.c (.slice none 0 0)]
theorem zIG (k n : Int) (u : ByteArray) : VLe (.agg (lfV (vD31 k n u))) (.agg (cellsV Tryz.prog 12 84 (vD31 k n u))):=
 .agg (.cons (.refl _) (.cons (.refl _) (.cons (.refl _) (.cons (.nil _) (.cons (.nil _) .nil)))))
section
variable (E0 : Ge)
theorem textR_raw (s : ByteArray) : AC E0 Tryz.prog 172 [.c (.string s)] (.agg (lfV (vD31 3 0 s))):=by
 refine zO 5 Tryz.func172 rfl rfl rfl rfl ?_
 intro w0 w he
 repeat' (first
|refine zA9 ?_
|refine zB ?_
|refine zC ?_
|refine zQ ?_
|apply zAj rfl
 . conv => lhs; whnf
 . conv => lhs; whnf; arg 2; whnf
|apply zAZ rfl rfl rfl rfl
 . conv => lhs; whnf; arg 1; whnf
 . rfl
|apply zz rfl rfl rfl
 . conv => lhs; whnf
 . conv => lhs; whnf; arg 1; whnf
 . conv => lhs; whnf; arg 1; whnf
 . exact ⟨by kernel_rfl,by kernel_rfl⟩
 . rfl
|refine zAQ ?_
|refine zD ?_
|refine ⟨_,by conv => lhs; whnf; arg 2; whnf,?_⟩; conv => rhs; whnf
|exact trivial)
 rfl
theorem zHv (s : ByteArray) : AC E0 Tryz.prog 172 [.c (.string s)] (.agg (cellsV Tryz.prog 12 84 (vD31 3 0 s))):=(textR_raw E0 s).res (zIG _ _ _)
noncomputable def fdrV (sub : ByteArray -> List D -> List D) (p : D) : V:=
 .agg [.c (.int .i64 1),.c (.string (if (p.f 0).s.toList == (p.f 2).s.toList then ⟨#[]⟩ else (p.f 0).s)),.c (.string (p.f 2).s),.c (.string ⟨#[]⟩),.sl 86 (p.f 3).l,
  if (p.f 6).n = -1 then .c (.slice none 0 0) else .sl 150 [zBU (p.f 6).n],if 0 < (p.f 7).l.length then .sl 76 (sub ((p.f 4).f 0).s (p.f 7).l) else .c (.slice none 0 0)]
theorem zDu (sub : ByteArray -> List D -> List D) (p : D) {b0 b1 b2 : Bool} (h0 : (!(p.f 0).s.toList == (p.f 2).s.toList) = b0) (h1 : ((p.f 6).n != -1) = b1) (h2 : decide (((p.f 7).l.length : Int) > 0) = b2) :
 fdrV sub p = .agg [.c (.int .i64 1),.c (.string (bif b0 then (p.f 0).s else ⟨#[]⟩)),.c (.string (p.f 2).s),.c (.string ⟨#[]⟩),.sl 86 (p.f 3).l,
  bif b1 then .sl 150 [zBU (p.f 6).n] else .c (.slice none 0 0),bif b2 then .sl 76 (sub ((p.f 4).f 0).s (p.f 7).l) else .c (.slice none 0 0)]:=by
 subst h0 h1 h2
 unfold fdrV
 cases hA : ((p.f 0).s.toList == (p.f 2).s.toList) <;> by_cases hB : (p.f 6).n = -1 <;> by_cases hC : 0 < (p.f 7).l.length <;> first
  | (simp [hB,hC,bne]; done)
  | (have hB2 : ((p.f 6).n == -1) = false:=by simpa using hB
     simp [hB,hC,bne,hB2]; done)
theorem fieldR_raw (sub : ByteArray -> List D -> List D) (p : D) (hn : (p.f 7).l.length <= 1000000)
 (hs : 0 < (p.f 7).l.length -> AC E0 Tryz.prog 92 [.c (.string ((p.f 4).f 0).s),.sl 73 (p.f 7).l] (.sl 76 (sub ((p.f 4).f 0).s (p.f 7).l))) :
 AC E0 Tryz.prog 171 [.agg (cellsV Tryz.prog 12 73 p)] (fdrV sub p):=by
 have ht:=zHv E0 ⟨#[115]⟩
 have hs2:=fun (h : decide (((p.f 7).l.length : Int) > 0) = true) => hs (by have:=of_decide_eq_true h; omega)
 refine zO 42 Tryz.func171 rfl rfl rfl (by unfold fdrV; by_cases h1 : (p.f 6).n = -1 <;> by_cases h2 : 0 < (p.f 7).l.length <;> simp only [h1,h2,if_true,if_false] <;> rfl) ?_
 intro w0 w he
 repeat' (first
|apply zFH (.agg (cellsV Tryz.prog 12 86 (sArg ⟨#[105,110,105,116,105,97,108,67,111,117,110,116]⟩ (vD31 2 (p.f 6).n ⟨#[]⟩)))) rfl rfl
 . conv => lhs; whnf; arg 2; whnf
 . repeat' (first | exact VLe.refl _ | exact VLe.nil _ | exact VLe.lit _ _ | exact VLe.own _ _ _ | apply VLe.agg | apply VLeL.cons | exact VLeL.nil)
|apply zFH (.agg (cellsV Tryz.prog 12 150 (zBU (p.f 6).n))) rfl rfl
 . conv => lhs; whnf; arg 2; whnf
 . repeat' (first | exact VLe.refl _ | exact VLe.nil _ | exact VLe.lit _ _ | exact VLe.own _ _ _ | apply VLe.agg | apply VLeL.cons | exact VLeL.nil)
|apply zBT 11 ([(3,[1])]) ([(10,[3])]) rfl (by kernel_rfl) (by kernel_rfl) (by kernel_rfl)
|apply zGf
|apply zGe rfl
 . conv => lhs; whnf
 . conv => lhs; whnf; arg 2; whnf
|apply zDt rfl
 . conv => lhs; whnf
 . conv => lhs; whnf
 . first | exact ht | exact hs2 ‹_›
|apply zFv rfl rfl rfl
 . conv => lhs; whnf
 . rfl
 . conv => lhs; whnf; arg 1; whnf
 . conv => lhs; whnf; arg 1; whnf
 . exact ⟨by kernel_rfl,by kernel_rfl⟩
 . rfl
|show inO _ _ = true; rfl
|apply g_lit [sArg ⟨#[108,97,98,101,108]⟩ (vD31 3 0 ⟨#[115]⟩),sArg ⟨#[105,110,105,116,105,97,108,67,111,117,110,116]⟩ (vD31 2 (p.f 6).n ⟨#[]⟩)] rfl rfl
 . conv => lhs; whnf
 . first | (conv => lhs; whnf; arg 1; whnf)
 . rfl
 . rfl
 . repeat' (first | exact trivial | apply And.intro | rfl)
|apply g_lit [zBU (p.f 6).n] rfl rfl
 . conv => lhs; whnf
 . first | (conv => lhs; whnf; arg 1; whnf)
 . rfl
 . rfl
 . repeat' (first | exact trivial | apply And.intro | rfl)
|refine zA9 ?_
|refine zB ?_
|refine zC ?_
|refine zQ ?_
|refine zBX ?_
|apply zAj rfl
 . conv => lhs; whnf
 . conv => lhs; whnf; arg 2; whnf
|apply zl rfl
 . conv => lhs; whnf
 . conv => lhs; whnf
 . first | exact ht | exact hs2 ‹_›
|apply zAN rfl rfl rfl rfl
 . conv => lhs; whnf; arg 1; whnf
 . rfl
|apply zAZ rfl rfl rfl rfl
 . conv => lhs; whnf; arg 1; whnf
 . rfl
|apply zz rfl rfl rfl
 . conv => lhs; whnf
 . conv => lhs; whnf; arg 1; whnf
 . conv => lhs; whnf; arg 1; whnf
 . exact ⟨by kernel_rfl,by kernel_rfl⟩
 . rfl
|refine zV (by conv => lhs; whnf) ?_ ?_ <;> intro hb
|refine zAQ ?_
|refine zD ?_
|refine ⟨_,by conv => lhs; whnf; arg 2; whnf,?_⟩; conv => rhs; whnf
|exact trivial)
 all_goals first
  | (rw [zDu (b0:=true) (b1:=true) (b2:=true) sub p ‹_› ‹_› ‹_›]; rfl)
  | (rw [zDu (b0:=true) (b1:=true) (b2:=false) sub p ‹_› ‹_› ‹_›]; rfl)
  | (rw [zDu (b0:=true) (b1:=false) (b2:=true) sub p ‹_› ‹_› ‹_›]; rfl)
  | (rw [zDu (b0:=true) (b1:=false) (b2:=false) sub p ‹_› ‹_› ‹_›]; rfl)
  | (rw [zDu (b0:=false) (b1:=true) (b2:=true) sub p ‹_› ‹_› ‹_›]; rfl)
  | (rw [zDu (b0:=false) (b1:=true) (b2:=false) sub p ‹_› ‹_› ‹_›]; rfl)
  | (rw [zDu (b0:=false) (b1:=false) (b2:=true) sub p ‹_› ‹_› ‹_›]; rfl)
  | (rw [zDu (b0:=false) (b1:=false) (b2:=false) sub p ‹_› ‹_› ‹_›]; rfl)
end
end Go.Proofs.YthjiclhfhjdjpaaGreatDoor
namespace Go.Proofs.YthjiclhfhjdjpaaGreatDoor
def sepB (c : UInt8) : Bool:=c == 32 || c == 9 || c == 10 || c == 13 || c == 44
def zEN : Bool -> List UInt8 -> Nat
 | _,[] => 0
 | false,c :: r => if sepB c then zEN false r + 1 else if c == 35 then zEN true r + 1 else 0
 | true,c :: r => if c == 10 || c == 13 then zEN false r + 1 else zEN true r + 1
def letU (c : UInt8) : Bool:=decide (97 <= c.toNat /\ c.toNat <= 122) || decide (65 <= c.toNat /\ c.toNat <= 90) || c == 95
def wrdU (c : UInt8) : Bool:=letU c || digU c
def zGM (c : UInt8) : Bool:=[33,36,38,40,41,58,61,64,91,93,123,124,125].contains c
def spanN (p : UInt8 -> Bool) : List UInt8 -> Nat
 | [] => 0
 | c :: r => if p c then spanN p r + 1 else 0
def litN : List UInt8 -> Option Nat
 | [] => none
 | [c] => if c == 34 then some 1 else none
 | c :: d :: r => if c == 34 then some 1 else if c == 92 then (litN r).map (· + 2) else (litN (d :: r)).map (· + 1)
structure Tok where
 k : Int
 s : List UInt8
 i : Nat
deriving DecidableEq
def nerU : Lib.NumEnd Int -> Int
 | .ok _ => 0
 | Lib.NumEnd.syntax => 3
 | .range => 4
def readU (l : List UInt8) : Except Int (Int × List UInt8 × Nat):=
 match l with
 | [] => .error 3
 | c :: r =>
   if zGM c then .ok (1,[c],1)
   else if c == 46 then (if r.take 2 = [46,46] then .ok (1,[46,46,46],3) else .error 3)
   else if c == 45 || digU c then
    (if nerU (numU (c :: r.take (spanN wrdU r))) = 0 then .ok (3,c :: r.take (spanN wrdU r),spanN wrdU r + 1) else .error (nerU (numU (c :: r.take (spanN wrdU r)))))
   else if letU c then
    (if spanN wrdU r + 1 > 64 then .error 3 else .ok (2,c :: r.take (spanN wrdU r),spanN wrdU r + 1))
   else if c == 34 then
    (match litN r with
    | none => .error 3
    | some n => match unquoteU (c :: r.take n) with
      | none => .error 3
      | some t => .ok (4,t,n + 1))
   else .error 3
theorem zHw (p : UInt8 -> Bool) : ∀ l,spanN p l <= l.length
 | [] => Nat.le_refl _
 | c :: r => by
   have:=zHw p r
   unfold spanN
   split <;> simp <;> omega
theorem zHJ : ∀ (l : List UInt8) (n : Nat),litN l = some n -> 1 <= n /\ n <= l.length
 | [],n,h => by simp [litN] at h
 | [c],n,h => by
   unfold litN at h
   split at h
   . cases h; simp
   . cases h
 | c :: d :: r,n,h => by
   unfold litN at h
   split at h
   . cases h; simp
   . split at h
     . obtain ⟨m,hm,rfl⟩:=Option.map_eq_some_iff.1 h
       have:=zHJ r m hm
       simp; omega
     . obtain ⟨m,hm,rfl⟩:=Option.map_eq_some_iff.1 h
       have:=zHJ (d :: r) m hm
       simp at this |-; omega
theorem readU_le {l : List UInt8} {k : Int} {t : List UInt8} {n : Nat} (h : readU l = .ok (k,t,n)) : 1 <= n /\ n <= l.length /\ 1 <= k /\ k <= 4:=by
 unfold readU at h
 split at h
 . cases h
 . rename_i c r
   have hs:=zHw wrdU r
   split at h
   . cases h; simp
   split at h
   . split at h
     . rename_i h3
       cases h
       have : (r.take 2).length = 2:=by rw [h3]; rfl
       rw [List.length_take] at this
       simp; omega
     . cases h
   split at h
   . split at h
     . cases h; simp; omega
     . cases h
   split at h
   . split at h
     . cases h
     . cases h; simp; omega
   split at h
   . split at h
     . cases h
     . rename_i n' hn
       have:=zHJ r n' hn
       split at h
       . cases h
       . cases h; simp; omega
   . cases h
structure PS where
 ts : List Tok
 vr : Bool
 nd : Nat
abbrev PR (α : Type):=Except (Nat × Int) (α × PS)
def hdT (x : PS) : Tok:=x.ts.headD ⟨5,[],0⟩
def isS (x : PS) (s : List UInt8) : Bool:=(hdT x).k == 1 && (hdT x).s == s
def nxT (x : PS) : PS:=if (hdT x).k = 5 then x else { x with ts:=x.ts.drop 1 }
def zDZ (s : List UInt8) (x : PS) : PR Unit:=if isS x s = true then .ok ((),nxT x) else .error ((hdT x).i,3)
def zBn (x : PS) : PR (List UInt8):=if (hdT x).k = 2 then .ok ((hdT x).s,nxT x) else .error ((hdT x).i,3)
def zAX {α β : Type} (r : PR α) (f : α -> PS -> PR β) : PR β:=
 match r with
 | .error e => .error e
 | .ok (a,x) => f a x
def strD (s : List UInt8) : D:=.str ⟨s.toArray⟩
def valD (k n : Int) (s : List UInt8) (items : List D) (keys : List (List UInt8)) : D:=.obj [.int k,.int n,strD s,.list items,.list (keys.map strD)]
def refD (n : List UInt8) (w : List Int) : D:=.obj [strD n,.list (w.map .int)]
def argD (n : List UInt8) (v : D) : D:=.obj [strD n,v]
def dirD (n : List UInt8) (aa : List D) : D:=.obj [strD n,.list aa]
def selD (k : Int) (al n on : List UInt8) (aa ds ss : List D) : D:=.obj [.int k,strD al,strD n,strD on,.list aa,.list ds,.list ss]
def varD (n : List UInt8) (t : D) (h : Bool) (v : D) : D:=.obj [strD n,t,.bool h,v]
def opD (k : Int) (n : List UInt8) (vs ss : List D) : D:=.obj [.int k,strD n,.list vs,.list ss]
def fragD (n on : List UInt8) (ss : List D) : D:=.obj [strD n,strD on,.list ss]
def nullD : D:=valD 0 0 [] [] []
def zBj : Nat -> PS -> Nat × PS
 | 0,x => (0,x)
 | f + 1,x => if isS x [91] = true then ((zBj f (nxT x)).1 + 1,(zBj f (nxT x)).2) else (0,x)
def closeQ : Nat -> List Int -> PS -> PR (List Int)
 | 0,w,x => .ok (if isS x [33] = true then (1 :: w,nxT x) else (w,x))
 | n + 1,w,x => zAX (zDZ [93] (if isS x [33] = true then nxT x else x)) fun _ y => closeQ n (2 :: (if isS x [33] = true then 1 :: w else w)) y
def zIJ (x : PS) : PR (List UInt8 × List Int):=
 zAX (zBn (zBj x.ts.length x).2) fun n y => zAX (closeQ (zBj x.ts.length x).1 [] y) fun w z => .ok ((n,w),z)
def typQ (x : PS) : PR D:=zAX (zIJ x) fun t y => if t.2.length > 24 then .error ((hdT x).i,5) else .ok (refD t.1 t.2,y)
def numQ (l : List UInt8) : Int:=match numU l with | .ok n => n | _ => 0
def wordV (s : List UInt8) : D:=
 if s = [116,114,117,101] then valD 1 1 [] [] [] else if s = [102,97,108,115,101] then valD 1 0 [] [] [] else if s = [110,117,108,108] then nullD else valD 4 0 s [] []
def noVal (x : PS) : Bool:=(hdT x).k == 5 || ((hdT x).k == 1 && !isS x [91] && !isS x [123] && !(x.vr && isS x [36]))
def zGb (val : PS -> PR D) : Nat -> List D -> PS -> PR (List D)
 | 0,_,x => .error ((hdT x).i,0)
 | f + 1,acc,x => if isS x [93] = true then .ok (acc,nxT x) else zAX (val x) fun v y => zGb val f (acc ++ [v]) y
def zEh (val : PS -> PR D) : Nat -> List (List UInt8) -> List D -> PS -> PR (List (List UInt8) × List D)
 | 0,_,_,x => .error ((hdT x).i,0)
 | f + 1,ks,acc,x =>
   if isS x [125] = true then .ok ((ks,acc),nxT x)
   else zAX (zBn x) fun k y => if ks.contains k = true then .error ((hdT x).i,7) else
    zAX (zDZ [58] y) fun _ z => zAX (val z) fun v u => zEh val f (ks ++ [k]) (acc ++ [v]) u
def zC8 : Nat -> Nat -> PS -> PR D
 | 0,_,x => .error ((hdT x).i,0)
 | f + 1,lv,x =>
   if noVal x = true then .error ((hdT x).i,3)
   else if 24 < lv then .error ((hdT x).i,5)
   else if 4096 <= x.nd then .error ((hdT x).i,4)
   else
    let y : PS:={ nxT x with nd:=x.nd + 1 }
    if (hdT x).k = 3 then .ok (valD 2 (numQ (hdT x).s) [] [] [],y)
    else if (hdT x).k = 4 then .ok (valD 3 0 (hdT x).s [] [],y)
    else if (hdT x).k = 2 then .ok (wordV (hdT x).s,y)
    else if (hdT x).s = [36] then zAX (zBn y) fun n z => .ok (valD 7 0 n [] [],z)
    else if (hdT x).s = [91] then zAX (zGb (zC8 f (lv + 1)) (y.ts.length + 1) [] y) fun l z => .ok (valD 5 0 [] l [],z)
    else zAX (zEh (zC8 f (lv + 1)) (y.ts.length + 1) [] [] y) fun l z => .ok (valD 6 0 [] l.2 l.1,z)
def zE1 (x : PS) : PR D:=zC8 25 1 { x with nd:=0 }
def argsF : Nat -> List D -> PS -> PR (List D)
 | 0,_,x => .error ((hdT x).i,0)
 | f + 1,acc,x =>
   if acc.length ≠ 0 /\ isS x [41] = true then .ok (acc,nxT x)
   else if (hdT x).k = 2 /\ 16 <= acc.length then .error ((hdT x).i,4)
   else zAX (zBn x) fun n y => zAX (zDZ [58] y) fun _ z => zAX (zE1 z) fun v u => argsF f (acc ++ [argD n v]) u
def zHk (x : PS) : PR (List D):=if isS x [40] = true then argsF x.ts.length [] (nxT x) else .ok ([],x)
def dirsF : Nat -> List D -> PS -> PR (List D)
 | 0,_,x => .error ((hdT x).i,0)
 | f + 1,acc,x =>
   if isS x [64] = true then
    (if 16 <= acc.length then .error ((hdT x).i,4) else zAX (zBn (nxT x)) fun n y => zAX (zHk y) fun aa z => dirsF f (acc ++ [dirD n aa]) z)
   else .ok (acc,x)
def zHa (x : PS) : PR (List D):=dirsF (x.ts.length + 1) [] x
def onT : List UInt8:=[111,110]
def selQ (sels : PS -> PR (List D)) (x : PS) : PR D:=
 if isS x [46,46,46] = true then
  let y:=nxT x
  if (hdT y).k = 2 /\ (hdT y).s ≠ onT then zAX (zHa (nxT y)) fun ds z => .ok (selD 2 [] (hdT y).s [] [] ds [],z)
  else
   zAX (if (hdT y).k = 2 then zBn (nxT y) else .ok ([],y)) fun on z =>
    zAX (zHa z) fun ds u => zAX (sels u) fun ss v => .ok (selD 3 [] [] on [] ds ss,v)
 else
  zAX (zBn x) fun n y =>
   zAX (if isS y [58] = true then zAX (zBn (nxT y)) fun m z => .ok ((n,m),z) else .ok (([],n),y)) fun an z =>
    zAX (zHk z) fun aa u => zAX (zHa u) fun ds v =>
     zAX (if isS v [123] = true then sels v else .ok ([],v)) fun ss o => .ok (selD 1 an.1 an.2 [] aa ds ss,o)
def setF (sel : PS -> PR D) : Nat -> List D -> PS -> PR (List D)
 | 0,_,x => .error ((hdT x).i,0)
 | f + 1,acc,x =>
   if acc.length ≠ 0 /\ isS x [125] = true then .ok (acc,nxT x)
   else if ((hdT x).k = 2 \/ isS x [46,46,46] = true) /\ 64 <= acc.length then .error ((hdT x).i,4)
   else zAX (sel x) fun s y => setF sel f (acc ++ [s]) y
def zFi : Nat -> Nat -> PS -> PR (List D)
 | 0,_,x => .error ((hdT x).i,0)
 | f + 1,lv,x =>
   if isS x [123] = true /\ 24 < lv then .error ((hdT x).i,5)
   else zAX (zDZ [123] x) fun _ y => setF (selQ (zFi f (lv + 1))) (y.ts.length + 1) [] y
def setQ (x : PS) : PR (List D):=zFi 25 1 x
def varsF : Nat -> List D -> PS -> PR (List D)
 | 0,_,x => .error ((hdT x).i,0)
 | f + 1,acc,x =>
   if acc.length ≠ 0 /\ isS x [41] = true then .ok (acc,nxT x)
   else if isS x [36] = true /\ 16 <= acc.length then .error ((hdT x).i,4)
   else zAX (zDZ [36] x) fun _ y => zAX (zBn y) fun n z => zAX (zDZ [58] z) fun _ u => zAX (typQ u) fun t v =>
    zAX (if isS v [61] = true then zAX (zE1 { nxT v with vr:=false }) fun d o => .ok ((true,d),{ o with vr:=true }) else .ok ((false,nullD),v)) fun d o =>
     varsF f (acc ++ [varD n t d.1 d.2]) o
def opQ (k : Int) (x : PS) : PR D:=
 zAX (if (hdT x).k = 2 then .ok ((hdT x).s,nxT x) else .ok ([],x)) fun n y =>
  zAX (if isS y [40] = true then varsF y.ts.length [] (nxT y) else .ok ([],y)) fun vs z =>
   zAX (setQ z) fun ss u => .ok (opD k n vs ss,u)
def fragQ (x : PS) : PR D:=
 if (hdT x).s = onT then .error ((hdT x).i,3)
 else zAX (zBn x) fun n y => if (hdT y).k = 2 /\ (hdT y).s = onT then
  zAX (zBn (nxT y)) fun on z => zAX (setQ z) fun ss u => .ok (fragD n on ss,u)
  else .error ((hdT y).i,3)
inductive Lex : List UInt8 -> List (Int × List UInt8) -> Prop where
 | done {l : List UInt8} (h : l.drop (zEN false l) = []) : Lex l []
 | tok {l : List UInt8} {c : UInt8} {r : List UInt8} {k : Int} {s : List UInt8} {n : Nat} {ks : List (Int × List UInt8)} (h : l.drop (zEN false l) = c :: r) (ht : readU (c :: r) = .ok (k,s,n)) (hr : Lex ((c :: r).drop n) ks) : Lex l ((k,s) :: ks)
def bare (t : Tok) : Int × List UInt8:=(t.k,t.s)
def bnd (l : List UInt8) : Prop:=∀ c,l.head? = some c -> wrdU c = false
theorem bnd_cons {c : UInt8} {r : List UInt8} (h : wrdU c = false) : bnd (c :: r):=fun _ e => by cases e; exact h
def Ps (t : List UInt8) (ks : List (Int × List UInt8)) : Prop:=∀ r kr,Lex r kr -> Lex (t ++ r) (ks ++ kr)
def Pw (t : List UInt8) (ks : List (Int × List UInt8)) : Prop:=∀ r kr,bnd r -> Lex r kr -> Lex (t ++ r) (ks ++ kr)
theorem Ps.w {t : List UInt8} {ks : List (Int × List UInt8)} (h : Ps t ks) : Pw t ks:=fun r kr _ hr => h r kr hr
theorem Ps.nil : Ps [] []:=fun _ _ h => h
theorem Ps.app {a b : List UInt8} {ka kb : List (Int × List UInt8)} (h : Ps a ka) (k : Ps b kb) : Ps (a ++ b) (ka ++ kb):=fun r kr hr => by
 rw [List.append_assoc,List.append_assoc]; exact h _ _ (k r kr hr)
theorem Ps.appw {a b : List UInt8} {ka kb : List (Int × List UInt8)} (h : Ps a ka) (k : Pw b kb) : Pw (a ++ b) (ka ++ kb):=fun r kr hb hr => by
 rw [List.append_assoc,List.append_assoc]; exact h _ _ (k r kr hb hr)
theorem Pw.app {a b : List UInt8} {ka kb : List (Int × List UInt8)} (h : Pw a ka) (k : Ps b kb) (hb : b ≠ [] /\ bnd b) : Ps (a ++ b) (ka ++ kb):=fun r kr hr => by
 rw [List.append_assoc,List.append_assoc]
 refine h _ _ (fun c hc => hb.2 c ?_) (k r kr hr)
 cases b with
 | nil => exact (hb.1 rfl).elim
 | cons x y => exact hc
theorem Pw.appw {a b : List UInt8} {ka kb : List (Int × List UInt8)} (h : Pw a ka) (k : Pw b kb) (hb : bnd b) : Pw (a ++ b) (ka ++ kb):=fun r kr hr hl => by
 rw [List.append_assoc,List.append_assoc]
 refine h _ _ (fun c hc => ?_) (k r kr hr hl)
 cases b with
 | nil => exact hr c hc
 | cons x y => exact hb c hc
theorem Lex.sep {c : UInt8} {r : List UInt8} {kr : List (Int × List UInt8)} (hc : sepB c = true) (h : Lex r kr) : Lex (c :: r) kr:=by
 have e : (c :: r).drop (zEN false (c :: r)) = r.drop (zEN false r):=by
  rw [zEN,if_pos hc,List.drop_succ_cons]
 cases h with
 | done h => exact .done (by rw [e]; exact h)
 | tok h ht hr => exact .tok (by rw [e]; exact h) ht hr
theorem Ps.sep {c : UInt8} (hc : sepB c = true) : Ps [c] []:=fun _ _ h => h.sep hc
theorem sign_plain (c : UInt8) : zGM c = true -> sepB c = false /\ (c == 35) = false /\ wrdU c = false:=
 all256 (p:=fun c => zGM c = true -> sepB c = false /\ (c == 35) = false /\ wrdU c = false) (by decide +kernel) c
theorem zEM {c : UInt8} {r : List UInt8} (h : sepB c = false) (h2 : (c == 35) = false) : zEN false (c :: r) = 0:=by
 rw [zEN,if_neg (by rw [h]; decide),if_neg (by rw [h2]; decide)]
theorem Ps.sign {c : UInt8} (hc : zGM c = true) : Ps [c] [(1,[c])]:=fun r kr h => by
 obtain ⟨h1,h2,-⟩:=sign_plain c hc
 refine .tok (l:=c :: r) (c:=c) (r:=r) (n:=1) (by rw [zEM h1 h2]; rfl) ?_ h
 unfold readU
 simp only [hc,if_true]
def nameU (l : List UInt8) : Bool:=match l with | [] => false | c :: r => letU c && r.all wrdU && decide (r.length < 64)
theorem let_plain (c : UInt8) : letU c = true -> sepB c = false /\ (c == 35) = false /\ zGM c = false /\ (c == 46) = false /\ (c == 45 || digU c) = false /\ wrdU c = true:=
 all256 (p:=fun c => letU c = true -> sepB c = false /\ (c == 35) = false /\ zGM c = false /\ (c == 46) = false /\ (c == 45 || digU c) = false /\ wrdU c = true) (by decide +kernel) c
theorem zFf {p : UInt8 -> Bool} : ∀ (l r : List UInt8),l.all p = true -> (∀ c,r.head? = some c -> p c = false) -> spanN p (l ++ r) = l.length
 | [],[],_,_ => rfl
 | [],c :: r,_,h => by
   show spanN p (c :: r) = 0
   rw [spanN,if_neg (by rw [h c rfl]; decide)]
 | c :: l,r,ha,h => by
   rw [List.all_cons,Bool.and_eq_true] at ha
   rw [List.cons_append,spanN,if_pos ha.1,zFf l r ha.2 h,List.length_cons]
theorem Pw.name {l : List UInt8} (h : nameU l = true) : Pw l [(2,l)]:=fun r kr hb hr => by
 cases l with
 | nil => cases h
 | cons c q =>
   simp only [nameU,Bool.and_eq_true,decide_eq_true_eq] at h
   obtain ⟨⟨h1,h2⟩,h3⟩:=h
   obtain ⟨p1,p2,p3,p4,p5,p6⟩:=let_plain c h1
   have hs:=zFf q r h2 hb
   refine .tok (l:=c :: (q ++ r)) (c:=c) (r:=q ++ r) (n:=q.length + 1) (by rw [zEM p1 p2]; rfl) ?_ (by rw [List.drop_succ_cons,List.drop_left]; exact hr)
   unfold readU
   simp only [p3,p4,p5,h1,hs,Bool.false_eq_true,if_false,if_true,List.take_left]
   rw [if_neg (by omega)]
theorem zIk : ∀ {l : List UInt8},l.all digU = true -> l.all wrdU = true:=fun {l} h => by
 rw [List.all_eq_true] at h |-
 intro x hx
 unfold wrdU
 rw [h x hx,Bool.or_true]
theorem num_plain (c : UInt8) : (c == 45 || digU c) = true -> sepB c = false /\ (c == 35) = false /\ zGM c = false /\ (c == 46) = false:=
 all256 (p:=fun c => (c == 45 || digU c) = true -> sepB c = false /\ (c == 35) = false /\ zGM c = false /\ (c == 46) = false) (by decide +kernel) c
theorem Pw.num {l : List UInt8} {n : Int} (h : numU l = .ok n) (h1 : ∃ c q,l = c :: q /\ (c == 45 || digU c) = true /\ q.all wrdU = true) : Pw l [(3,l)]:=fun r kr hb hr => by
 obtain ⟨c,q,rfl,h2,h3⟩:=h1
 obtain ⟨p1,p2,p3,p4⟩:=num_plain c h2
 have hs:=zFf q r h3 hb
 refine .tok (l:=c :: (q ++ r)) (c:=c) (r:=q ++ r) (n:=q.length + 1) (by rw [zEM p1 p2]; rfl) ?_ (by rw [List.drop_succ_cons,List.drop_left]; exact hr)
 unfold readU
 simp only [p3,p4,h2,hs,Bool.false_eq_true,if_false,if_true,List.take_left,h,nerU]
theorem itoa_shape (n : Int) : ∃ c q,Lib.itoa n = c :: q /\ (c == 45 || digU c) = true /\ q.all wrdU = true:=by
 unfold Lib.itoa
 split
 . exact ⟨45,_,rfl,rfl,zIk (zEn _)⟩
 . have h:=zEn n.toNat
   cases hd : Lib.decDigits n.toNat with
   | nil => exact (zIl _ hd).elim
   | cons c q =>
     rw [hd,List.all_cons,Bool.and_eq_true] at h
     exact ⟨c,q,rfl,by rw [h.1,Bool.or_true],zIk h.2⟩
theorem Pw.int (n : Int) (h0 : -9223372036854775808 <= n) (h1 : n <= 9223372036854775807) : Pw (Lib.itoa n) [(3,Lib.itoa n)]:=Pw.num (num_itoa n h0 h1) (itoa_shape n)
inductive All2 (T : Tok -> Tok -> Prop) : List Tok -> List Tok -> Prop where
 | nil : All2 T [] []
 | cons {a b : Tok} {l m : List Tok} (h : T a b) (t : All2 T l m) : All2 T (a :: l) (b :: m)
structure TR (T : Tok -> Tok -> Prop) (I : Nat -> Nat -> Prop) : Prop where
 k : ∀ {t t'},T t t' -> t.k = t'.k
 s : ∀ {t t'},T t t' -> t.s = t'.s
 i : ∀ {t t'},T t t' -> I t.i t'.i
 z : I 0 0
structure XR (T : Tok -> Tok -> Prop) (x x' : PS) : Prop where
 ts : All2 T x.ts x'.ts
 vr : x.vr = x'.vr
 nd : x.nd = x'.nd
def RR (T : Tok -> Tok -> Prop) (I : Nat -> Nat -> Prop) {α : Type} : PR α -> PR α -> Prop
 | .ok (a,x),.ok (a',x') => a = a' /\ XR T x x'
 | .error e,.error e' => I e.1 e'.1 /\ e.2 = e'.2
 | _,_ => False
section
variable {T : Tok -> Tok -> Prop} {I : Nat -> Nat -> Prop} {α β : Type}
theorem zHm {a b : List Tok} (h : All2 T a b) : a.length = b.length:=by induction h with | nil => rfl | cons _ _ ih => simp [ih]
theorem all2_drop {a b : List Tok} (h : All2 T a b) : ∀ n,All2 T (a.drop n) (b.drop n):=by
 induction h with
 | nil => intro n; simp; exact .nil
 | cons h1 h2 ih =>
   intro n
   cases n with
   | zero => exact .cons h1 h2
   | succ n => simpa using ih n
theorem XR.hd (hT : TR T I) {x x' : PS} (h : XR T x x') : (hdT x').k = (hdT x).k /\ (hdT x').s = (hdT x).s /\ I (hdT x).i (hdT x').i:=by
 obtain ⟨h1,-,-⟩:=h
 unfold hdT
 generalize x.ts = a at h1
 generalize x'.ts = b at h1
 cases h1 with
 | nil => exact ⟨rfl,rfl,hT.z⟩
 | cons h2 h3 => exact ⟨(hT.k h2).symm,(hT.s h2).symm,hT.i h2⟩
theorem XR.isS (hT : TR T I) {x x' : PS} (h : XR T x x') (s : List UInt8) : isS x' s = isS x s:=by
 obtain ⟨h1,h2,-⟩:=h.hd hT
 unfold Go.Proofs.YthjiclhfhjdjpaaGreatDoor.isS
 rw [h1,h2]
theorem XR.nx (hT : TR T I) {x x' : PS} (h : XR T x x') : XR T (nxT x) (nxT x'):=by
 obtain ⟨h1,-,-⟩:=h.hd hT
 unfold nxT
 rw [h1]
 split
 . exact h
 . exact ⟨all2_drop h.ts 1,h.vr,h.nd⟩
theorem XR.len {x x' : PS} (h : XR T x x') : x'.ts.length = x.ts.length:=(zHm h.ts).symm
theorem RR.err (hT : TR T I) {x x' : PS} (h : XR T x x') (e : Int) : RR T I (α:=α) (.error ((hdT x).i,e)) (.error ((hdT x').i,e)):=⟨(h.hd hT).2.2,rfl⟩
theorem RR.okk {x x' : PS} (h : XR T x x') (a : α) : RR T I (.ok (a,x)) (.ok (a,x')):=⟨rfl,h⟩
theorem RR.ite {c : Prop} [Decidable c] {a b a' b' : PR α} (h1 : c -> RR T I a a') (h2 : ¬ c -> RR T I b b') : RR T I (if c then a else b) (if c then a' else b'):=by
 split
 . rename_i h; exact h1 h
 . rename_i h; exact h2 h
theorem RR.then {r r' : PR α} {f f' : α -> PS -> PR β} (h : RR T I r r') (hf : ∀ a x x',XR T x x' -> RR T I (f a x) (f' a x')) : RR T I (zAX r f) (zAX r' f'):=by
 unfold zAX
 cases r with
 | error e => cases r' with | error e' => exact h | ok a' => exact h.elim
 | ok a =>
   cases r' with
   | error e' => exact h.elim
   | ok a' =>
     obtain ⟨a,x⟩:=a
     obtain ⟨a',x'⟩:=a'
     obtain ⟨rfl,hx⟩:=h
     exact hf _ _ _ hx
variable (hT : TR T I)
include hT
end
theorem Lex.kinds {l : List UInt8} {ks : List (Int × List UInt8)} (h : Lex l ks) : ∀ p ∈ ks,p.1 ≠ 5:=by
 induction h with
 | done h => intro p hp; cases hp
 | tok h ht hr ih =>
   intro p hp
   rcases List.mem_cons.1 hp with rfl | hp
   . have:=readU_le ht
     show _ ≠ _
     omega
   . exact ih p hp
end Go.Proofs.YthjiclhfhjdjpaaGreatDoor
