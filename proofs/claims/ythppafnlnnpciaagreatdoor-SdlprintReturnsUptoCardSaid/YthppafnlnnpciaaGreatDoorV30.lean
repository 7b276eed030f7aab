import Derived.KernelRfl
import Derived.Test.YthppafnlnnpciaaGreatDoorV21
import Derived.Test.YthppafnlnnpciaaGreatDoorV29
set_option maxHeartbeats 8000000
set_option maxRecDepth 100000
set_option linter.unusedVariables false
set_option linter.unusedSimpArgs false
namespace Go.Proofs.YthppafnlnnpciaaGreatDoor
open Go.RowKit
attribute [local irreducible] wpList Calls Code.wp AW AWo OpOk seqK zz z8 loopK endK AC zl Yld Sub
def zAA (f:Nat->List UInt8) (n:Nat):List D:=(List.range n).map fun i => .str (bs (f i))
theorem zAH (f:Nat->List UInt8) (n:Nat):(zAA f n).length=n:=by simp [zAA]
theorem zx (f:Nat->List UInt8) (n:Nat):zAA f (n+1)=zAA f n++[.str (bs (f n))]:=by simp [zAA,List.range_succ]
theorem zAz (f:Nat->List UInt8) (n:Nat):txs (zAA f n)=(List.range n).map f:=by
 unfold txs zAA
 rw [List.map_map]
 exact List.map_congr_left fun i _=>zBD _
theorem zCG {l:List D} {x:D} {c:Nat} (h:l.length<=100000000) (hc:c<=1000):0<[x].length/\l.length+[x].length<=maxLen/\(l.length+[x].length)*c<=140737488355328:=by
 refine ⟨by simp,by unfold maxLen;simp;omega,?_⟩
 have:(l.length+1)*c<=100000001*1000:=Nat.mul_le_mul (by omega) hc
 simp only [List.length_cons,List.length_nil,Nat.zero_add]
 omega
theorem at_ok {i n:Nat} (h:decide ((i:Int)<(n:Int))=true):0<=(i:Int)/\(i:Int)<(n:Int):=⟨by omega,of_decide_eq_true h⟩
theorem zEQ {i n:Nat} (h:decide ((i:Int)<(n:Int))=true):i<n:=by have:=of_decide_eq_true h;omega
theorem at_ge {i n:Nat} (h:decide ((i:Int)<(n:Int))=false):n<=i:=by have:=of_decide_eq_false h;omega
theorem sz3 {a b:UInt8} {l:List UInt8} {n:Nat} (h:l.length<=n) (hn:n<=1000000000:=by omega):((⟨#[a]⟩:ByteArray)++bs l).size+(⟨#[b]⟩:ByteArray).size<=maxLen:=by
 simp only [ByteArray.size_append,zW]
 show 1+_+1<=_
 unfold maxLen;omega
theorem sz2 {a:UInt8} {l:List UInt8} {n:Nat} (h:l.length<=n) (hn:n<=1000000000:=by omega):(⟨#[a]⟩:ByteArray).size+(bs l).size<=maxLen:=by
 simp only [zW]
 show 1+_<=_
 unfold maxLen;omega
def mI (a b:Nat):Int:=if (b:Int)<(a:Int) then b else a
theorem mI_eq (a b:Nat):mI a b=(min a b:Nat):=by unfold mI;split<;>omega
noncomputable def HzL (d:D) (f:Nat->List UInt8) (i:Nat):Vst 85:=
 stS 85 [(1,.bx 1 0),(3,.own 3 9 (zAA f i)),(36,.sl 53 (d.f 3).l),(37,.c (.int .i64 (d.f 3).l.length)),(38,.c (.int .i64 i))] [(1,.box 53 (cellsV Tryz.prog 12 53 d)),(3,.tok 9 (zAA f i).length)]
noncomputable def HzO (d:D) (f:Nat->List UInt8) (i:Nat):Vst 85:=
 stS 85 [(1,.bx 1 0),(3,.own 3 9 (zAA f i)),(60,.c (.int .i64 (if ((d.f 3).l.length:Int)<((d.f 4).l.length:Int) then ((d.f 3).l.length:Int) else ((d.f 4).l.length:Int)))),(61,.c (.int .i64 i))] [(1,.box 53 (cellsV Tryz.prog 12 53 d)),(3,.tok 9 (zAA f i).length)]
def goodV:Nat->D->Prop
 |0,_=>True
 |k+1,d=>((d.f 0).n=1->(d.f 1).n=0\/(d.f 1).n=1) /\ ∀ i,i<(d.f 3).l.length->goodV k (gD (d.f 3).l i)
theorem val_items (k:Nat) (d:D) (hw:wideD d) (hb:bulkD d<=1048576):(Lib.join ((List.range (d.f 3).l.length).map fun i=>valT k (gD (d.f 3).l i)) commaT).length<=26000000:=by
 have:=zA6 (d.f 3).l.length (fun i=>valT k (gD (d.f 3).l i)) commaT (fun i=>24*bulkD (gD (d.f 3).l i)) fun i hi=>zBJ k _ ((hw.f 3).l i)
 rw [zBK,<- zAg] at this
 have h3:=zn (d.f 3)
 have h4:=wD_f d 3
 have h5:=zb d
 omega
theorem zIs (k:Nat) (d:D) (hw:wideD d) (hb:bulkD d<=1048576):(Lib.join ((List.range (min (d.f 4).l.length (d.f 3).l.length)).map fun i=>tx (gD (d.f 4).l i).s++[58,32]++valT k (gD (d.f 3).l i)) commaT).length<=52000000:=by
 have:=zA6 (min (d.f 4).l.length (d.f 3).l.length) (fun i=>tx (gD (d.f 4).l i).s++[58,32]++valT k (gD (d.f 3).l i)) commaT (fun i=>24*bulkD (gD (d.f 4).l i)+24*bulkD (gD (d.f 3).l i)) fun i hi=>by
  have a:=zBJ k (gD (d.f 3).l i) ((hw.f 3).l i)
  have b:=zAX (gD (d.f 4).l i)
  have c:=zb (gD (d.f 4).l i)
  have e:=zA0 (gD (d.f 4).l i).s
  have e':commaT.length=2:=rfl
  simp only [List.length_append,List.length_cons,List.length_nil]
  omega
 rw [zGm,zBK,zBK] at this
 have a1:=zAt (fun i=>bulkD (gD (d.f 4).l i)) (show min (d.f 4).l.length (d.f 3).l.length<=(d.f 4).l.length by omega)
 have a2:=zAt (fun i=>bulkD (gD (d.f 3).l i)) (show min (d.f 4).l.length (d.f 3).l.length<=(d.f 3).l.length by omega)
 rw [<- zAg] at a1 a2
 have h3:=zn (d.f 3)
 have h4:=zn (d.f 4)
 have h5:=wD_f d 3
 have h6:=wD_f d 4
 have h7:=zb d
 omega
theorem val_lens (d:D) (hb:bulkD d<=1048576):(d.f 2).s.size<=1048576/\(d.f 3).l.length<=1048576/\(d.f 4).l.length<=1048576:=by
 have len : ∀ l:List D,l.length<=bulkL l:=fun l=>by
  induction l with
  |nil=>exact Nat.zero_le _
  |cons x r ih=>have:=zAl x;simp only [List.length_cons,bulkL];omega
 have h2:=zAX (d.f 2)
 have h3:=zn (d.f 3)
 have h4:=zn (d.f 4)
 have h5:=wD_f d 2
 have h6:=wD_f d 3
 have h7:=wD_f d 4
 have h8:=zb d
 have:=len (d.f 3).l
 have:=len (d.f 4).l
 omega
theorem valT_list {k:Nat} {d:D} (h:(d.f 0).n=5):valT (k+1) d=[91]++Lib.join ((List.range (d.f 3).l.length).map fun i=>valT k (gD (d.f 3).l i)) commaT++[93]:=by
 rw [valT,h];rfl
theorem valT_obj {k:Nat} {d:D} (h:(d.f 0).n=6):valT (k+1) d=[123]++Lib.join ((List.range (min (d.f 4).l.length (d.f 3).l.length)).map fun i=>tx (gD (d.f 4).l i).s++[58,32]++valT k (gD (d.f 3).l i)) commaT++[125]:=by
 rw [valT,h];rfl
theorem zDi : ∀ (k:Nat) (d:D),Dp k d->wideD d->goodV k d->bulkD d<=1048576->AC EN Tryz.prog 41 [.agg (cellsV Tryz.prog 12 53 d)] (.c (.string (bs (valT k d))))
 |0,_,h,_,_,_=>h.elim
 |k+1,d,h,hw,hg,hb=>by
  obtain ⟨hs,hl3,hl4⟩:=val_lens d hb
  have hn:=(hw.f 1).n
  have hdec:=zJa (d.f 1).n hn.1 hn.2
  have hq:=quoteP_ac (d.f 2).s hs
  have hit:=val_items k d hw hb
  have hen:=zIs k d hw hb
  have ih : ∀ i,i<(d.f 3).l.length->AC EN Tryz.prog 41 [.agg (cellsV Tryz.prog 12 53 (gD (d.f 3).l i))] (.c (.string (bs (valT k (gD (d.f 3).l i))))):=fun i hi =>
   zDi k _ (h i hi) ((hw.f 3).l i) (hg.2 i hi) (by have:=zBq hi;have:=zb d;omega)
  have hjl:=zCw (zAA (fun i=>valT k (gD (d.f 3).l i)) (d.f 3).l.length) [44,32] (by rw [zAH];omega) (by rw [zAz];exact Nat.le_trans hit (by omega))
  have hjo:=zCw (zAA (fun i=>tx (gD (d.f 4).l i).s++[58,32]++valT k (gD (d.f 3).l i)) (min (d.f 4).l.length (d.f 3).l.length)) [44,32] (by rw [zAH];omega) (by rw [zAz];exact Nat.le_trans hen (by omega))
  refine zN 85 Tryz.func41 rfl rfl rfl rfl ?_
  intro s w he
  repeat' (first
|refine zA ?_
|refine zB ?_
|refine zH ?_
|refine zR ?_
|refine zCt ?_
|apply aw_1
 conv=>whnf
 refine ⟨?_,trivial⟩
|apply s_1
 conv=>whnf;arg 1;arg 4;arg 3;whnf
 refine ⟨?_,?_⟩
|apply zFC rfl
 . conv=>lhs;whnf
 . conv=>lhs;whnf;arg 2;whnf
|apply ze rfl
 . conv=>lhs;whnf
 . conv=>lhs;whnf
 . first | exact hdec | exact hq
|apply zAL rfl rfl rfl rfl
 . conv=>lhs;whnf;arg 1;whnf
 . rfl
|apply zCm rfl rfl rfl rfl
 . conv=>lhs;whnf;arg 1;whnf
 . rfl
|apply zS rfl rfl rfl
 . conv=>lhs;whnf
 . conv=>lhs;whnf;arg 1;whnf
 . conv=>lhs;whnf;arg 1;whnf
 . exact ⟨by kernel_rfl,by kernel_rfl⟩
 . rfl
|apply zBf rfl rfl
 . conv=>lhs;whnf
 . first | (conv=>lhs;whnf;arg 1;whnf)
 . first | exact fun _=>rfl | (intro _;kernel_rfl)
 . conv=>lhs;whnf
 . conv=>lhs;whnf;arg 1;whnf
 . conv=>lhs;whnf
|apply zB9 rfl rfl rfl rfl
 . first | (conv=>lhs;whnf;arg 1;whnf)
 . first | exact fun _=>rfl | (intro _;kernel_rfl)
 . conv=>lhs;whnf
 . conv=>lhs;whnf
|apply zGA rfl rfl
 . conv=>lhs;whnf
 . first | (conv=>lhs;whnf;arg 1;whnf)
|apply zBb rfl rfl
 . conv=>lhs;whnf
 . first | (conv=>lhs;whnf;arg 1;whnf)
 . conv=>lhs;whnf;arg 1;whnf
 . rfl
 . rfl
|apply zEB rfl rfl
 . conv=>lhs;whnf
 . first | (conv=>lhs;whnf;arg 1;whnf)
 . first | exact fun _=>rfl | (intro _;kernel_rfl)
 . conv=>lhs;whnf
 . conv=>lhs;whnf
|apply zAF (by kernel_rfl) (by kernel_rfl)
|apply zAs
|apply zAr rfl
 . conv=>lhs;whnf
 . conv=>lhs;whnf;arg 2;whnf
|apply zBa rfl
 . conv=>lhs;whnf
 . conv=>lhs;whnf
 . first | exact hdec | exact hq
|apply zDP rfl rfl rfl
 . conv=>lhs;whnf
 . rfl
 . rfl
 . conv=>lhs;whnf;arg 1;whnf
 . conv=>lhs;whnf;arg 1;whnf
 . exact ⟨by kernel_rfl,by kernel_rfl⟩
 . rfl
|apply zIo rfl rfl
 . conv=>lhs;whnf
 . first | (conv=>lhs;whnf;arg 1;whnf)
 . first | exact fun _=>rfl | (intro _;kernel_rfl)
 . conv=>lhs;whnf
 . rfl
 . rfl
 . conv=>lhs;whnf;arg 1;whnf
 . conv=>lhs;whnf
|apply zFx rfl rfl
 . conv=>lhs;whnf
 . first | (conv=>lhs;whnf;arg 1;whnf)
|apply zEy rfl rfl
 . conv=>lhs;whnf
 . first | (conv=>lhs;whnf;arg 1;whnf)
 . conv=>lhs;whnf;arg 1;whnf
 . rfl
 . rfl
|apply zEA rfl rfl
 . conv=>lhs;whnf
 . first | (conv=>lhs;whnf;arg 1;whnf)
 . first | exact fun _=>rfl | (intro _;kernel_rfl)
 . conv=>lhs;whnf
 . conv=>lhs;whnf
|exact zk
|exact zv
|exact all_nil
|show List.all _ _=true;rfl
|show zA9 _ _=true;rfl
|exact ([]:List Nat)
|exact (1000000:Nat)
|apply zBV
 . conv=>lhs;whnf;arg 1;arg 1;whnf
|apply zBW
 . conv=>lhs;whnf;arg 1;arg 1;whnf
|refine zZ (by conv=>lhs;whnf) ?_ ?_<;>intro hb
|refine zD8 ?_
|refine zCX ?_
|refine zM ?_
|refine zO ?_
|refine zQ ?_
|refine zK rfl ?_
|refine zAZ rfl ?_
|refine zAY ?_
|refine zAk ?_
|refine zJ ?_
|refine zy ?_
|refine zII ?_
|refine zE ?_
|refine ⟨_,by conv=>lhs;whnf;arg 2;whnf,?_⟩;conv=>rhs;whnf
|exact trivial
|intro hg)
  . rename_i h0
    rw [valT,if_pos (by simpa using h0),if_neg (by have h1:(d.f 1).n=0:=by simpa using hb
                                                   rw [h1];decide)];rfl
  . rename_i h0
    have h1 : ¬ (d.f 1).n=0:=by simpa using hb
    rw [valT,if_pos (by simpa using h0),if_pos ((hg.1 (by simpa using h0)).resolve_left h1)];rfl
  . rename_i h0
    rw [valT,if_neg (by simpa using h0),if_pos (by simpa using hb)]
  . rename_i h0 h1
    rw [valT,if_neg (by simpa using h0),if_neg (by simpa using h1),if_pos (by simpa using hb)]
  . rename_i h0 h1 h2
    rw [valT,if_neg (by simpa using h0),if_neg (by simpa using h1),if_neg (by simpa using h2),if_pos (by simpa using hb),zEO]
  . rename_i h0 h1 h2 h3
    rw [valT,if_neg (by simpa using h0),if_neg (by simpa using h1),if_neg (by simpa using h2),if_neg (by simpa using h3),if_pos (by simpa using hb),<- zAS,zEO];rfl
  . have:(d.f (0+1+1)).s.size<=1048576:=hs
    show 1+_<=_
    unfold maxLen;omega
  . have hk:(d.f 0).n=5:=by simpa using hb
    refine zg (Sub.own (t:=3) (e:=9) rfl rfl) ?_
    refine zi (fun j st => ∃ i,i+j=(d.f 3).l.length/\Sub (cx EN Tryz.prog s w he) st (HzL d (fun i=>valT k (gD (d.f 3).l i)) i)) (d.f 3).l.length ⟨0,by omega,?_⟩ ?_
    . exact Sub.live ⟨rfl,rfl,rfl,rfl,rfl,trivial⟩ ⟨rfl,rfl,trivial⟩
    . rintro j st ⟨i,hij,hs2⟩
      refine zg hs2 ?_
      have htk:=zAH (fun i=>valT k (gD (d.f 3).l i)) i
      have ih2:=fun (h:decide ((i:Int)<(d.f 3).l.length)=true)=>ih i (by simpa using h)
      have hjl2:decide ((i:Int)<(d.f 3).l.length)=false->AC EN Tryz.prog 44 [.sl 9 (zAA (fun i=>valT k (gD (d.f 3).l i)) i),.c (.string (bs [44,32]))] (.c (.string (bs (Lib.join (txs (zAA (fun i=>valT k (gD (d.f 3).l i)) (d.f 3).l.length)) [44,32])))):=fun h=>by
       have e:i=(d.f 3).l.length:=by simp at h;omega
       rw [e];exact hjl
      repeat' (first
|refine zA ?_
|refine zB ?_
|refine zH ?_
|refine zR ?_
|refine zCt ?_
|apply aw_1
 conv=>whnf
 refine ⟨?_,trivial⟩
|apply s_1
 conv=>whnf;arg 1;arg 4;arg 3;whnf
 refine ⟨?_,?_⟩
|apply zFC rfl
 . conv=>lhs;whnf
 . conv=>lhs;whnf;arg 2;whnf
|apply ze rfl
 . conv=>lhs;whnf
 . conv=>lhs;whnf
 . first | exact ih2 ‹_› | exact hjl2 ‹_›
|apply zAL rfl rfl rfl rfl
 . conv=>lhs;whnf;arg 1;whnf
 . rfl
|apply zCm rfl rfl rfl rfl
 . conv=>lhs;whnf;arg 1;whnf
 . rfl
|apply zS rfl rfl rfl
 . conv=>lhs;whnf
 . conv=>lhs;whnf;arg 1;whnf
 . conv=>lhs;whnf;arg 1;whnf
 . exact ⟨by kernel_rfl,by kernel_rfl⟩
 . rfl
|apply zBf rfl rfl
 . conv=>lhs;whnf
 . first | exact zm | (conv=>lhs;whnf;arg 1;whnf)
 . first | exact fun _=>rfl | (intro _;kernel_rfl)
 . conv=>lhs;whnf
 . conv=>lhs;whnf;arg 1;whnf
 . conv=>lhs;whnf
|apply zB9 rfl rfl rfl rfl
 . first | exact zm | (conv=>lhs;whnf;arg 1;whnf)
 . first | exact fun _=>rfl | (intro _;kernel_rfl)
 . conv=>lhs;whnf
 . conv=>lhs;whnf
|apply zGA rfl rfl
 . conv=>lhs;whnf
 . first | exact zm | (conv=>lhs;whnf;arg 1;whnf)
|apply zBb rfl rfl
 . conv=>lhs;whnf
 . first | exact zm | (conv=>lhs;whnf;arg 1;whnf)
 . conv=>lhs;whnf;arg 1;whnf
 . rfl
 . rfl
|apply zEB rfl rfl
 . conv=>lhs;whnf
 . first | exact zm | (conv=>lhs;whnf;arg 1;whnf)
 . first | exact fun _=>rfl | (intro _;kernel_rfl)
 . conv=>lhs;whnf
 . conv=>lhs;whnf
|apply zAF (by kernel_rfl) (by kernel_rfl)
|apply zAs
|apply zAr rfl
 . conv=>lhs;whnf
 . conv=>lhs;whnf;arg 2;whnf
|apply zBa rfl
 . conv=>lhs;whnf
 . conv=>lhs;whnf
 . first | exact ih2 ‹_› | exact hjl2 ‹_›
|apply zDP rfl rfl rfl
 . conv=>lhs;whnf
 . rfl
 . rfl
 . conv=>lhs;whnf;arg 1;whnf
 . conv=>lhs;whnf;arg 1;whnf
 . exact ⟨by kernel_rfl,by kernel_rfl⟩
 . rfl
|apply zIo rfl rfl
 . conv=>lhs;whnf
 . first | exact zm | (conv=>lhs;whnf;arg 1;whnf)
 . first | exact fun _=>rfl | (intro _;kernel_rfl)
 . conv=>lhs;whnf
 . rfl
 . rfl
 . conv=>lhs;whnf;arg 1;whnf
 . conv=>lhs;whnf
|apply zFx rfl rfl
 . conv=>lhs;whnf
 . first | exact zm | (conv=>lhs;whnf;arg 1;whnf)
|apply zEy rfl rfl
 . conv=>lhs;whnf
 . first | exact zm | (conv=>lhs;whnf;arg 1;whnf)
 . conv=>lhs;whnf;arg 1;whnf
 . rfl
 . rfl
|apply zEA rfl rfl
 . conv=>lhs;whnf
 . first | exact zm | (conv=>lhs;whnf;arg 1;whnf)
 . first | exact fun _=>rfl | (intro _;kernel_rfl)
 . conv=>lhs;whnf
 . conv=>lhs;whnf
|exact zk
|exact zv
|exact all_nil
|show List.all _ _=true;rfl
|show zA9 _ _=true;rfl
|exact ([]:List Nat)
|exact (1000000:Nat)
|apply zBV
 . conv=>lhs;whnf;arg 1;arg 1;whnf
|apply zBW
 . conv=>lhs;whnf;arg 1;arg 1;whnf
|refine zZ (by conv=>lhs;whnf) ?_ ?_<;>intro hb
|refine zD8 ?_
|refine zCX ?_
|refine zM ?_
|refine zO ?_
|refine zQ ?_
|refine zK rfl ?_
|refine zAZ rfl ?_
|refine zAY ?_
|refine zAk ?_
|refine zJ ?_
|refine zy ?_
|refine zII ?_
|refine zE ?_
|refine ⟨_,by conv=>lhs;whnf;arg 2;whnf,?_⟩;conv=>rhs;whnf
|exact trivial
|intro hg)
      . have hi:=zEQ hb
        refine zI (j':=j-1) (by omega) ⟨i+1,by omega,Sub.live ⟨rfl,?_,rfl,rfl,rfl,trivial⟩ ⟨rfl,?_,trivial⟩⟩
        . show V.own 3 _ (zAA _ i++[.str (bs _)])=_
          rw [<- zx]
        . show some (Res.tok _ ((zAA _ i).length+1))=_
          rw [zx,List.length_append];rfl
      . exact zU (by omega)
      . exact zCG (by omega) (by omega)
      . exact at_ok hb
      . rw [valT_list hk,zAz,<- zAS,<- zAS];rfl
      . rw [zAz];exact sz3 hit
      . rw [zAz];exact sz2 hit
  . have hk:(d.f 0).n=6:=by simpa using hb
    refine zg (Sub.own (t:=3) (e:=9) rfl rfl) ?_
    refine zi (fun j st => ∃ i,i+j=min (d.f 4).l.length (d.f 3).l.length/\Sub (cx EN Tryz.prog s w he) st (HzO d (fun i=>tx (gD (d.f 4).l i).s++[58,32]++valT k (gD (d.f 3).l i)) i)) (min (d.f 4).l.length (d.f 3).l.length) ⟨0,by omega,?_⟩ ?_
    . exact Sub.live ⟨rfl,rfl,rfl,rfl,trivial⟩ ⟨rfl,rfl,trivial⟩
    . rintro j st ⟨i,hij,hs2⟩
      refine zg hs2 ?_
      have htk:=zAH (fun i=>tx (gD (d.f 4).l i).s++[58,32]++valT k (gD (d.f 3).l i)) i
      have hlt:decide ((i:Int)<mI (d.f 4).l.length (d.f 3).l.length)=true->i<(d.f 3).l.length/\i<(d.f 4).l.length:=fun h=>by
       rw [mI_eq] at h
       have:=zEQ h
       omega
      have ih2:=fun (h:decide ((i:Int)<mI (d.f 4).l.length (d.f 3).l.length)=true)=>ih i (hlt h).1
      have hjo2:decide ((i:Int)<mI (d.f 4).l.length (d.f 3).l.length)=false->AC EN Tryz.prog 44 [.sl 9 (zAA (fun i=>tx (gD (d.f 4).l i).s++[58,32]++valT k (gD (d.f 3).l i)) i),.c (.string (bs [44,32]))] (.c (.string (bs (Lib.join (txs (zAA (fun i=>tx (gD (d.f 4).l i).s++[58,32]++valT k (gD (d.f 3).l i)) (min (d.f 4).l.length (d.f 3).l.length))) [44,32])))):=fun h=>by
       rw [mI_eq] at h
       have e:i=min (d.f 4).l.length (d.f 3).l.length:=by have:=at_ge h;omega
       rw [e];exact hjo
      have hks:i<(d.f 4).l.length->(gD (d.f 4).l i).s.size<=1048576:=fun hi=>by
       have:=zAX (gD (d.f 4).l i)
       have:=zb (gD (d.f 4).l i)
       have:=zBq hi
       have:=zb d
       omega
      have hvs:i<(d.f 3).l.length->(valT k (gD (d.f 3).l i)).length<=26000000:=fun hi=>by
       have:=zBJ k _ ((hw.f 3).l i)
       have:=zBq hi
       have:=zb d
       omega
      repeat' (first
|refine zA ?_
|refine zB ?_
|refine zH ?_
|refine zR ?_
|refine zCt ?_
|apply aw_1
 conv=>whnf
 refine ⟨?_,trivial⟩
|apply s_1
 conv=>whnf;arg 1;arg 4;arg 3;whnf
 refine ⟨?_,?_⟩
|apply zFC rfl
 . conv=>lhs;whnf
 . conv=>lhs;whnf;arg 2;whnf
|apply ze rfl
 . conv=>lhs;whnf
 . conv=>lhs;whnf
 . first | exact ih2 ‹_› | exact hjo2 ‹_›
|apply zAL rfl rfl rfl rfl
 . conv=>lhs;whnf;arg 1;whnf
 . rfl
|apply zCm rfl rfl rfl rfl
 . conv=>lhs;whnf;arg 1;whnf
 . rfl
|apply zS rfl rfl rfl
 . conv=>lhs;whnf
 . conv=>lhs;whnf;arg 1;whnf
 . conv=>lhs;whnf;arg 1;whnf
 . exact ⟨by kernel_rfl,by kernel_rfl⟩
 . rfl
|apply zBf rfl rfl
 . conv=>lhs;whnf
 . first | exact zm | (conv=>lhs;whnf;arg 1;whnf)
 . first | exact fun _=>rfl | (intro _;kernel_rfl)
 . conv=>lhs;whnf
 . conv=>lhs;whnf;arg 1;whnf
 . conv=>lhs;whnf
|apply zB9 rfl rfl rfl rfl
 . first | exact zm | (conv=>lhs;whnf;arg 1;whnf)
 . first | exact fun _=>rfl | (intro _;kernel_rfl)
 . conv=>lhs;whnf
 . conv=>lhs;whnf
|apply zGA rfl rfl
 . conv=>lhs;whnf
 . first | exact zm | (conv=>lhs;whnf;arg 1;whnf)
|apply zBb rfl rfl
 . conv=>lhs;whnf
 . first | exact zm | (conv=>lhs;whnf;arg 1;whnf)
 . conv=>lhs;whnf;arg 1;whnf
 . rfl
 . rfl
|apply zEB rfl rfl
 . conv=>lhs;whnf
 . first | exact zm | (conv=>lhs;whnf;arg 1;whnf)
 . first | exact fun _=>rfl | (intro _;kernel_rfl)
 . conv=>lhs;whnf
 . conv=>lhs;whnf
|apply zAF (by kernel_rfl) (by kernel_rfl)
|apply zAs
|apply zAr rfl
 . conv=>lhs;whnf
 . conv=>lhs;whnf;arg 2;whnf
|apply zBa rfl
 . conv=>lhs;whnf
 . conv=>lhs;whnf
 . first | exact ih2 ‹_› | exact hjo2 ‹_›
|apply zDP rfl rfl rfl
 . conv=>lhs;whnf
 . rfl
 . rfl
 . conv=>lhs;whnf;arg 1;whnf
 . conv=>lhs;whnf;arg 1;whnf
 . exact ⟨by kernel_rfl,by kernel_rfl⟩
 . rfl
|apply zIo rfl rfl
 . conv=>lhs;whnf
 . first | exact zm | (conv=>lhs;whnf;arg 1;whnf)
 . first | exact fun _=>rfl | (intro _;kernel_rfl)
 . conv=>lhs;whnf
 . rfl
 . rfl
 . conv=>lhs;whnf;arg 1;whnf
 . conv=>lhs;whnf
|apply zFx rfl rfl
 . conv=>lhs;whnf
 . first | exact zm | (conv=>lhs;whnf;arg 1;whnf)
|apply zEy rfl rfl
 . conv=>lhs;whnf
 . first | exact zm | (conv=>lhs;whnf;arg 1;whnf)
 . conv=>lhs;whnf;arg 1;whnf
 . rfl
 . rfl
|apply zEA rfl rfl
 . conv=>lhs;whnf
 . first | exact zm | (conv=>lhs;whnf;arg 1;whnf)
 . first | exact fun _=>rfl | (intro _;kernel_rfl)
 . conv=>lhs;whnf
 . conv=>lhs;whnf
|exact zk
|exact zv
|exact all_nil
|show List.all _ _=true;rfl
|show zA9 _ _=true;rfl
|exact ([]:List Nat)
|exact (1000000:Nat)
|apply zBV
 . conv=>lhs;whnf;arg 1;arg 1;whnf
|apply zBW
 . conv=>lhs;whnf;arg 1;arg 1;whnf
|refine zZ (by conv=>lhs;whnf) ?_ ?_<;>intro hb
|refine zD8 ?_
|refine zCX ?_
|refine zM ?_
|refine zO ?_
|refine zQ ?_
|refine zK rfl ?_
|refine zAZ rfl ?_
|refine zAY ?_
|refine zAk ?_
|refine zJ ?_
|refine zy ?_
|refine zII ?_
|refine zE ?_
|refine ⟨_,by conv=>lhs;whnf;arg 2;whnf,?_⟩;conv=>rhs;whnf
|exact trivial
|intro hg)
      . refine zI (j':=j-1) (by have:=hlt hb;omega) ⟨i+1,by have:=hlt hb;omega,Sub.live ⟨rfl,?_,rfl,rfl,trivial⟩ ⟨rfl,?_,trivial⟩⟩
        . show V.own 3 _ (zAA _ i++[.str ((gD (d.f 4).l i).s++⟨#[58,32]⟩++bs _)])=_
          rw [zx,<- zAS,<- zAS,zEO];rfl
        . show some (Res.tok _ ((zAA _ i).length+1))=_
          rw [zx,List.length_append];rfl
      . exact zU (by have:=hlt hb;omega)
      . exact zCG (by have:=hlt hb;omega) (by omega)
      . have h1:=hks (hlt hb).2
        have h2:=hvs (hlt hb).1
        rw [ByteArray.size_append,zW]
        show (gD (d.f 4).l i).s.size+2+_<=_
        unfold maxLen;omega
      . have:=(hlt hb).1
        exact ⟨by omega,by show (i:Int)<((d.f 3).l.length:Int);omega⟩
      . have h1:=hks (hlt hb).2
        show (gD (d.f 4).l i).s.size+2<=_
        unfold maxLen;omega
      . have:=(hlt hb).2
        exact ⟨by omega,by show (i:Int)<((d.f 4).l.length:Int);omega⟩
      . rw [valT_obj hk,zAz,<- zAS,<- zAS];rfl
      . rw [zAz];exact sz3 hen
      . rw [zAz];exact sz2 hen
  . rename_i h0 h1 h2 h3 h4 h5
    rw [valT,if_neg (by simpa using h0),if_neg (by simpa using h1),if_neg (by simpa using h2),if_neg (by simpa using h3),if_neg (by simpa using h4),if_neg (by simpa using h5),if_neg (by simpa using hb)];rfl
structure ArgsOk (k:Nat) (l:List D):Prop where
 wide : ∀ i,wideD (gD l i)
 bulk:bulkL l<=1048576
 dp : ∀ i,i<l.length->Dp k ((gD l i).f 1)
 good : ∀ i,i<l.length->goodV k ((gD l i).f 1)
structure DirsOk (k:Nat) (l:List D):Prop where
 wide : ∀ i,wideD (gD l i)
 bulk:bulkL l<=1048576
 args : ∀ i,i<l.length->ArgsOk k ((gD l i).f 1).l
theorem zHC (l:List D):l.length<=bulkL l:=by
 induction l with
 |nil=>exact Nat.zero_le _
 |cons x r ih=>have:=zAl x;simp only [List.length_cons,bulkL];omega
theorem zAf (f:D->List UInt8) (l:List D):txs (zAA (fun i=>f (gD l i)) l.length)=l.map f:=by
 rw [zAz]
 apply List.ext_getElem (by simp)
 intro i h1 h2
 simp [zBp (l:=l) (i:=i) (by simpa using h1)]
theorem ArgsOk.val {k:Nat} {l:List D} (h:ArgsOk k l) {i:Nat} (hi:i<l.length):bulkD ((gD l i).f 1)<=1048576:=by
 have:=zAE hi
 have:=wD_f (gD l i) 1
 have:=zb ((gD l i).f 1)
 have:=zb (gD l i)
 have:=h.bulk
 omega
theorem ArgsOk.name {k:Nat} {l:List D} (h:ArgsOk k l) {i:Nat} (hi:i<l.length):((gD l i).f 0).s.size<=1048576:=by
 have:=zAE hi
 have:=wD_f (gD l i) 0
 have:=zAX ((gD l i).f 0)
 have:=zb (gD l i)
 have:=h.bulk
 omega
theorem ArgsOk.text {k:Nat} {l:List D} (h:ArgsOk k l) {i:Nat} (hi:i<l.length):(valT k ((gD l i).f 1)).length<=26000000:=by
 have:=h.val hi
 have:=zBJ k ((gD l i).f 1) ((h.wide i).f 1)
 omega
theorem DirsOk.name {k:Nat} {l:List D} (h:DirsOk k l) {i:Nat} (hi:i<l.length):((gD l i).f 0).s.size<=1048576:=by
 have:=zAE hi
 have:=wD_f (gD l i) 0
 have:=zAX ((gD l i).f 0)
 have:=zb (gD l i)
 have:=h.bulk
 omega
theorem DirsOk.par {k:Nat} {l:List D} (h:DirsOk k l) {i:Nat} (hi:i<l.length):(zIj k ((gD l i).f 1).l).length<=30000000:=by
 have:=zIi k ((gD l i).f 1).l (h.args i hi).wide
 have:=(h.args i hi).bulk
 omega
theorem ArgsOk.len {k:Nat} {l:List D} (h:ArgsOk k l):l.length<=1048576:=Nat.le_trans (zHC l) h.bulk
theorem DirsOk.len {k:Nat} {l:List D} (h:DirsOk k l):l.length<=1048576:=Nat.le_trans (zHC l) h.bulk
theorem parT_if (k:Nat) (l:List D):parT k l=if 0<l.length then [40]++zIj k l++[41] else []:=by
 unfold parT
 by_cases h:l.length=0
 . rw [if_pos h,if_neg (by omega)]
 . rw [if_neg h,if_pos (by omega)]
noncomputable def HdP (k:Nat) (l:List D) (i:Nat):Vst 53:=
 stS 53 [(3,.own 3 9 (zAA (fun i=>dirT k (gD l i)) i)),(10,.sl 108 l),(11,.c (.int .i64 l.length)),(12,.c (.int .i64 i))] [(3,.tok 9 (zAA (fun i=>dirT k (gD l i)) i).length)]
noncomputable def HaP (k:Nat) (l:List D) (i m:Nat):Vst 53:=
 stS 53 [(3,.own 3 9 (zAA (fun i=>dirT k (gD l i)) i)),(6,.c (.string (⟨#[64]⟩++((gD l i).f 0).s))),(7,.own 7 9 (zAA (fun j=>argT k (gD ((gD l i).f 1).l j)) m)),(10,.sl 108 l),(11,.c (.int .i64 l.length)),(12,.c (.int .i64 i)),(20,.sl 111 ((gD l i).f 1).l),(21,.c (.int .i64 ((gD l i).f 1).l.length)),(22,.c (.int .i64 m))]
  [(3,.tok 9 (zAA (fun i=>dirT k (gD l i)) i).length),(7,.tok 9 (zAA (fun j=>argT k (gD ((gD l i).f 1).l j)) m).length)]
theorem dirsP_ac (k:Nat) (l:List D) (h:DirsOk k l):AC EN Tryz.prog 157 [.sl 108 l] (.c (.string (bs (zJZ k l)))):=by
 have hlen:=h.len
 have hds:=zFe k l h.wide
 have hbk:=h.bulk
 have hj:=zCw (zAA (fun i=>dirT k (gD l i)) l.length) [32] (by rw [zAH];omega) (by rw [zAf];exact Nat.le_trans hds (by omega))
 rw [zAf] at hj
 refine zN 53 Tryz.func157 rfl rfl rfl rfl ?_
 intro s w he
 repeat' (first
|refine zA ?_
|refine zB ?_
|refine zH ?_
|refine zR ?_
|refine zCt ?_
|apply aw_1
 conv=>whnf
 refine ⟨?_,trivial⟩
|apply s_1
 conv=>whnf;arg 1;arg 4;arg 3;whnf
 refine ⟨?_,?_⟩
|apply zFC rfl
 . conv=>lhs;whnf
 . conv=>lhs;whnf;arg 2;whnf
|apply ze rfl
 . conv=>lhs;whnf
 . conv=>lhs;whnf
 . first | fail
|apply zCm rfl rfl rfl rfl
 . conv=>lhs;whnf;arg 1;whnf
 . rfl
|apply zS rfl rfl rfl
 . conv=>lhs;whnf
 . conv=>lhs;whnf;arg 1;whnf
 . conv=>lhs;whnf;arg 1;whnf
 . exact ⟨by kernel_rfl,by kernel_rfl⟩
 . rfl
|apply zBf rfl rfl
 . conv=>lhs;whnf
 . first | (conv=>lhs;whnf;arg 1;whnf)
 . first | exact fun _=>rfl | (intro _;kernel_rfl)
 . conv=>lhs;whnf
 . conv=>lhs;whnf;arg 1;whnf
 . conv=>lhs;whnf
|apply zB9 rfl rfl rfl rfl
 . first | (conv=>lhs;whnf;arg 1;whnf)
 . first | exact fun _=>rfl | (intro _;kernel_rfl)
 . conv=>lhs;whnf
 . conv=>lhs;whnf
|apply zGA rfl rfl
 . conv=>lhs;whnf
 . first | (conv=>lhs;whnf;arg 1;whnf)
|apply zBb rfl rfl
 . conv=>lhs;whnf
 . first | (conv=>lhs;whnf;arg 1;whnf)
 . conv=>lhs;whnf;arg 1;whnf
 . rfl
 . rfl
|apply zEB rfl rfl
 . conv=>lhs;whnf
 . first | (conv=>lhs;whnf;arg 1;whnf)
 . first | exact fun _=>rfl | (intro _;kernel_rfl)
 . conv=>lhs;whnf
 . conv=>lhs;whnf
|apply zAF (by kernel_rfl) (by kernel_rfl)
|apply zAs
|apply zAr rfl
 . conv=>lhs;whnf
 . conv=>lhs;whnf;arg 2;whnf
|apply zBa rfl
 . conv=>lhs;whnf
 . conv=>lhs;whnf
 . first | fail
|apply zDP rfl rfl rfl
 . conv=>lhs;whnf
 . rfl
 . rfl
 . conv=>lhs;whnf;arg 1;whnf
 . conv=>lhs;whnf;arg 1;whnf
 . exact ⟨by kernel_rfl,by kernel_rfl⟩
 . rfl
|apply zIo rfl rfl
 . conv=>lhs;whnf
 . first | (conv=>lhs;whnf;arg 1;whnf)
 . first | exact fun _=>rfl | (intro _;kernel_rfl)
 . conv=>lhs;whnf
 . rfl
 . rfl
 . conv=>lhs;whnf;arg 1;whnf
 . conv=>lhs;whnf
|apply zFx rfl rfl
 . conv=>lhs;whnf
 . first | (conv=>lhs;whnf;arg 1;whnf)
|apply zEy rfl rfl
 . conv=>lhs;whnf
 . first | (conv=>lhs;whnf;arg 1;whnf)
 . conv=>lhs;whnf;arg 1;whnf
 . rfl
 . rfl
|apply zEA rfl rfl
 . conv=>lhs;whnf
 . first | (conv=>lhs;whnf;arg 1;whnf)
 . first | exact fun _=>rfl | (intro _;kernel_rfl)
 . conv=>lhs;whnf
 . conv=>lhs;whnf
|exact zk
|exact zv
|exact all_nil
|show List.all _ _=true;rfl
|show zA9 _ _=true;rfl
|exact ([]:List Nat)
|exact (1000000:Nat)
|apply zBV
 . conv=>lhs;whnf;arg 1;arg 1;whnf
|apply zBW
 . conv=>lhs;whnf;arg 1;arg 1;whnf
|refine zZ (by conv=>lhs;whnf) ?_ ?_<;>intro hb
|refine zD8 ?_
|refine zCX ?_
|refine zM ?_
|refine zO ?_
|refine zQ ?_
|refine zK rfl ?_
|refine zAZ rfl ?_
|refine zAY ?_
|refine zAk ?_
|refine zJ ?_
|refine zy ?_
|refine zII ?_
|refine zE ?_
|refine ⟨_,by conv=>lhs;whnf;arg 2;whnf,?_⟩;conv=>rhs;whnf
|exact trivial
|intro hg)
 refine zg (Sub.own (t:=3) (e:=9) rfl rfl) ?_
 refine zi (fun j st => ∃ i,i+j=l.length/\Sub (cx EN Tryz.prog s w he) st (HdP k l i)) l.length ⟨0,by omega,?_⟩ ?_
 . exact Sub.live ⟨rfl,rfl,rfl,rfl,trivial⟩ ⟨rfl,trivial⟩
 . rintro j st ⟨i,hij,hs2⟩
   refine zg hs2 ?_
   have htk:=zAH (fun i=>dirT k (gD l i)) i
   have hj2:decide ((i:Int)<(l.length:Int))=false->AC EN Tryz.prog 44 [.sl 9 (zAA (fun i=>dirT k (gD l i)) i),.c (.string (bs [32]))] (.c (.string (bs (zJZ k l)))):=fun hh=>by
    have e:i=l.length:=by have:=at_ge hh;omega
    rw [e];exact hj
   have hnm:i<l.length->((gD l i).f 0).s.size<=1048576:=fun hi=>h.name hi
   repeat' (first
|refine zA ?_
|refine zB ?_
|refine zH ?_
|refine zR ?_
|refine zCt ?_
|apply aw_1
 conv=>whnf
 refine ⟨?_,trivial⟩
|apply s_1
 conv=>whnf;arg 1;arg 4;arg 3;whnf
 refine ⟨?_,?_⟩
|apply zFC rfl
 . conv=>lhs;whnf
 . conv=>lhs;whnf;arg 2;whnf
|apply ze rfl
 . conv=>lhs;whnf
 . conv=>lhs;whnf
 . first | exact hj2 ‹_›
|apply zCm rfl rfl rfl rfl
 . conv=>lhs;whnf;arg 1;whnf
 . rfl
|apply zS rfl rfl rfl
 . conv=>lhs;whnf
 . conv=>lhs;whnf;arg 1;whnf
 . conv=>lhs;whnf;arg 1;whnf
 . exact ⟨by kernel_rfl,by kernel_rfl⟩
 . rfl
|apply zBf rfl rfl
 . conv=>lhs;whnf
 . first | exact zm | (conv=>lhs;whnf;arg 1;whnf)
 . first | exact fun _=>rfl | (intro _;kernel_rfl)
 . conv=>lhs;whnf
 . conv=>lhs;whnf;arg 1;whnf
 . conv=>lhs;whnf
|apply zB9 rfl rfl rfl rfl
 . first | exact zm | (conv=>lhs;whnf;arg 1;whnf)
 . first | exact fun _=>rfl | (intro _;kernel_rfl)
 . conv=>lhs;whnf
 . conv=>lhs;whnf
|apply zGA rfl rfl
 . conv=>lhs;whnf
 . first | exact zm | (conv=>lhs;whnf;arg 1;whnf)
|apply zBb rfl rfl
 . conv=>lhs;whnf
 . first | exact zm | (conv=>lhs;whnf;arg 1;whnf)
 . conv=>lhs;whnf;arg 1;whnf
 . rfl
 . rfl
|apply zEB rfl rfl
 . conv=>lhs;whnf
 . first | exact zm | (conv=>lhs;whnf;arg 1;whnf)
 . first | exact fun _=>rfl | (intro _;kernel_rfl)
 . conv=>lhs;whnf
 . conv=>lhs;whnf
|apply zAF (by kernel_rfl) (by kernel_rfl)
|apply zAs
|apply zAr rfl
 . conv=>lhs;whnf
 . conv=>lhs;whnf;arg 2;whnf
|apply zBa rfl
 . conv=>lhs;whnf
 . conv=>lhs;whnf
 . first | exact hj2 ‹_›
|apply zDP rfl rfl rfl
 . conv=>lhs;whnf
 . rfl
 . rfl
 . conv=>lhs;whnf;arg 1;whnf
 . conv=>lhs;whnf;arg 1;whnf
 . exact ⟨by kernel_rfl,by kernel_rfl⟩
 . rfl
|apply zIo rfl rfl
 . conv=>lhs;whnf
 . first | exact zm | (conv=>lhs;whnf;arg 1;whnf)
 . first | exact fun _=>rfl | (intro _;kernel_rfl)
 . conv=>lhs;whnf
 . rfl
 . rfl
 . conv=>lhs;whnf;arg 1;whnf
 . conv=>lhs;whnf
|apply zFx rfl rfl
 . conv=>lhs;whnf
 . first | exact zm | (conv=>lhs;whnf;arg 1;whnf)
|apply zEy rfl rfl
 . conv=>lhs;whnf
 . first | exact zm | (conv=>lhs;whnf;arg 1;whnf)
 . conv=>lhs;whnf;arg 1;whnf
 . rfl
 . rfl
|apply zEA rfl rfl
 . conv=>lhs;whnf
 . first | exact zm | (conv=>lhs;whnf;arg 1;whnf)
 . first | exact fun _=>rfl | (intro _;kernel_rfl)
 . conv=>lhs;whnf
 . conv=>lhs;whnf
|exact zk
|exact zv
|exact all_nil
|show List.all _ _=true;rfl
|show zA9 _ _=true;rfl
|exact ([]:List Nat)
|exact (1000000:Nat)
|apply zBV
 . conv=>lhs;whnf;arg 1;arg 1;whnf
|apply zBW
 . conv=>lhs;whnf;arg 1;arg 1;whnf
|refine zZ (by conv=>lhs;whnf) ?_ ?_<;>intro hb
|refine zD8 ?_
|refine zCX ?_
|refine zM ?_
|refine zO ?_
|refine zQ ?_
|refine zK rfl ?_
|refine zAZ rfl ?_
|refine zAY ?_
|refine zAk ?_
|refine zJ ?_
|refine zy ?_
|refine zII ?_
|refine zE ?_
|refine ⟨_,by conv=>lhs;whnf;arg 2;whnf,?_⟩;conv=>rhs;whnf
|exact trivial
|intro hg)
   . have hi:=zEQ hb
     have ha:=h.args i hi
     have hla:=ha.len
     have hpar:=h.par hi
     have hja:=zCw (zAA (fun j=>argT k (gD ((gD l i).f 1).l j)) ((gD l i).f 1).l.length) [44,32] (by rw [zAH];omega) (by rw [zAf];exact Nat.le_trans hpar (by omega))
     rw [zAf] at hja
     refine zg (Sub.own (t:=7) (e:=9) rfl rfl) ?_
     refine zi (fun j st => ∃ m,m+j=((gD l i).f 1).l.length/\Sub (cx EN Tryz.prog s w he) st (HaP k l i m)) ((gD l i).f 1).l.length ⟨0,by omega,?_⟩ ?_
     . exact Sub.live ⟨rfl,rfl,rfl,rfl,rfl,rfl,rfl,rfl,rfl,trivial⟩ ⟨rfl,rfl,trivial⟩
     . rintro j2 st2 ⟨m,hmj,hs3⟩
       refine zg hs3 ?_
       have htk2:=zAH (fun j=>argT k (gD ((gD l i).f 1).l j)) m
       have hv:decide ((m:Int)<(((gD l i).f 1).l.length:Int))=true->AC EN Tryz.prog 41 [.agg (cellsV Tryz.prog 12 53 ((gD ((gD l i).f 1).l m).f 1))] (.c (.string (bs (valT k ((gD ((gD l i).f 1).l m).f 1))))):=fun hh =>
        zDi k _ (ha.dp m (zEQ hh)) ((ha.wide m).f 1) (ha.good m (zEQ hh)) (ha.val (zEQ hh))
       have hja2:decide ((m:Int)<(((gD l i).f 1).l.length:Int))=false->AC EN Tryz.prog 44 [.sl 9 (zAA (fun j=>argT k (gD ((gD l i).f 1).l j)) m),.c (.string (bs [44,32]))] (.c (.string (bs (zIj k ((gD l i).f 1).l)))):=fun hh=>by
        have e:m=((gD l i).f 1).l.length:=by have:=at_ge hh;omega
        rw [e];exact hja
       repeat' (first
|refine zA ?_
|refine zB ?_
|refine zH ?_
|refine zR ?_
|refine zCt ?_
|apply aw_1
 conv=>whnf
 refine ⟨?_,trivial⟩
|apply s_1
 conv=>whnf;arg 1;arg 4;arg 3;whnf
 refine ⟨?_,?_⟩
|apply zFC rfl
 . conv=>lhs;whnf
 . conv=>lhs;whnf;arg 2;whnf
|apply ze rfl
 . conv=>lhs;whnf
 . conv=>lhs;whnf
 . first | exact hv ‹_› | exact hja2 ‹_›
|apply zCm rfl rfl rfl rfl
 . conv=>lhs;whnf;arg 1;whnf
 . rfl
|apply zS rfl rfl rfl
 . conv=>lhs;whnf
 . conv=>lhs;whnf;arg 1;whnf
 . conv=>lhs;whnf;arg 1;whnf
 . exact ⟨by kernel_rfl,by kernel_rfl⟩
 . rfl
|apply zBf rfl rfl
 . conv=>lhs;whnf
 . first | exact zm | (conv=>lhs;whnf;arg 1;whnf)
 . first | exact fun _=>rfl | (intro _;kernel_rfl)
 . conv=>lhs;whnf
 . conv=>lhs;whnf;arg 1;whnf
 . conv=>lhs;whnf
|apply zB9 rfl rfl rfl rfl
 . first | exact zm | (conv=>lhs;whnf;arg 1;whnf)
 . first | exact fun _=>rfl | (intro _;kernel_rfl)
 . conv=>lhs;whnf
 . conv=>lhs;whnf
|apply zGA rfl rfl
 . conv=>lhs;whnf
 . first | exact zm | (conv=>lhs;whnf;arg 1;whnf)
|apply zBb rfl rfl
 . conv=>lhs;whnf
 . first | exact zm | (conv=>lhs;whnf;arg 1;whnf)
 . conv=>lhs;whnf;arg 1;whnf
 . rfl
 . rfl
|apply zEB rfl rfl
 . conv=>lhs;whnf
 . first | exact zm | (conv=>lhs;whnf;arg 1;whnf)
 . first | exact fun _=>rfl | (intro _;kernel_rfl)
 . conv=>lhs;whnf
 . conv=>lhs;whnf
|apply zAF (by kernel_rfl) (by kernel_rfl)
|apply zAs
|apply zAr rfl
 . conv=>lhs;whnf
 . conv=>lhs;whnf;arg 2;whnf
|apply zBa rfl
 . conv=>lhs;whnf
 . conv=>lhs;whnf
 . first | exact hv ‹_› | exact hja2 ‹_›
|apply zDP rfl rfl rfl
 . conv=>lhs;whnf
 . rfl
 . rfl
 . conv=>lhs;whnf;arg 1;whnf
 . conv=>lhs;whnf;arg 1;whnf
 . exact ⟨by kernel_rfl,by kernel_rfl⟩
 . rfl
|apply zIo rfl rfl
 . conv=>lhs;whnf
 . first | exact zm | (conv=>lhs;whnf;arg 1;whnf)
 . first | exact fun _=>rfl | (intro _;kernel_rfl)
 . conv=>lhs;whnf
 . rfl
 . rfl
 . conv=>lhs;whnf;arg 1;whnf
 . conv=>lhs;whnf
|apply zFx rfl rfl
 . conv=>lhs;whnf
 . first | exact zm | (conv=>lhs;whnf;arg 1;whnf)
|apply zEy rfl rfl
 . conv=>lhs;whnf
 . first | exact zm | (conv=>lhs;whnf;arg 1;whnf)
 . conv=>lhs;whnf;arg 1;whnf
 . rfl
 . rfl
|apply zEA rfl rfl
 . conv=>lhs;whnf
 . first | exact zm | (conv=>lhs;whnf;arg 1;whnf)
 . first | exact fun _=>rfl | (intro _;kernel_rfl)
 . conv=>lhs;whnf
 . conv=>lhs;whnf
|exact zk
|exact zv
|exact all_nil
|show List.all _ _=true;rfl
|show zA9 _ _=true;rfl
|exact ([]:List Nat)
|exact (1000000:Nat)
|apply zBV
 . conv=>lhs;whnf;arg 1;arg 1;whnf
|apply zBW
 . conv=>lhs;whnf;arg 1;arg 1;whnf
|refine zZ (by conv=>lhs;whnf) ?_ ?_<;>intro hb
|refine zD8 ?_
|refine zCX ?_
|refine zM ?_
|refine zO ?_
|refine zQ ?_
|refine zK rfl ?_
|refine zAZ rfl ?_
|refine zAY ?_
|refine zAk ?_
|refine zJ ?_
|refine zy ?_
|refine zII ?_
|refine zE ?_
|refine ⟨_,by conv=>lhs;whnf;arg 2;whnf,?_⟩;conv=>rhs;whnf
|exact trivial
|intro hg)
       . have hm:=zEQ hb
         refine zI (j':=j2-1) (by omega) ⟨m+1,by omega,Sub.live ⟨rfl,rfl,?_,rfl,rfl,rfl,rfl,rfl,rfl,trivial⟩ ⟨rfl,?_,trivial⟩⟩
         . show V.own 7 _ (zAA _ m++[.str (((gD ((gD l i).f 1).l m).f 0).s++⟨#[58,32]⟩++bs _)])=_
           rw [zx,argT,<- zAS,<- zAS,zEO];rfl
         . show some (Res.tok _ ((zAA _ m).length+1))=_
           rw [zx,List.length_append];rfl
       . exact zU (by have:=zEQ hb;omega)
       . exact zCG (by have:=zEQ hb;omega) (by omega)
       . have h1:=ha.name (zEQ hb)
         have h2:=ha.text (zEQ hb)
         (simp only [ByteArray.size_append,zW,zt,List.size_toArray,List.length_append,List.length_cons,List.length_nil,maxLen,Nat.reduceAdd,Int.toNat_natCast];omega)
       . have h1:=ha.name (zEQ hb)
         (simp only [ByteArray.size_append,zW,zt,List.size_toArray,List.length_append,List.length_cons,List.length_nil,maxLen,Nat.reduceAdd,Int.toNat_natCast];omega)
       . exact at_ok hb
       . rename_i hb0
         have e:m=((gD l i).f 1).l.length:=by have:=at_ge hb0;omega
         have hp:0<((gD l i).f 1).l.length:=by rw [htk2] at hb;have:=of_decide_eq_true hb;omega
         refine zI (j':=j-1) (by omega) ⟨i+1,by omega,Sub.live ⟨?_,rfl,rfl,rfl,trivial⟩ ⟨?_,trivial⟩⟩
         . show V.own 3 _ (zAA _ i++[.str (⟨#[64]⟩++((gD l i).f 0).s++(⟨#[40]⟩++bs (zIj k ((gD l i).f 1).l)++⟨#[41]⟩))])=_
           rw [zx,dirT,parT_if,if_pos hp,<- zAS,<- zAS,<- zAS,<- zAS,zEO];rfl
         . show some (Res.tok _ ((zAA _ i).length+1))=_
           rw [zx,List.length_append];rfl
       . exact zU (by omega)
       . exact zCG (by omega) (by omega)
       . have:=hnm hi
         (simp only [ByteArray.size_append,zW,zt,List.size_toArray,List.length_append,List.length_cons,List.length_nil,maxLen,Nat.reduceAdd,Int.toNat_natCast];omega)
       . (simp only [ByteArray.size_append,zW,zt,List.size_toArray,List.length_append,List.length_cons,List.length_nil,maxLen,Nat.reduceAdd,Int.toNat_natCast];omega)
       . (simp only [ByteArray.size_append,zW,zt,List.size_toArray,List.length_append,List.length_cons,List.length_nil,maxLen,Nat.reduceAdd,Int.toNat_natCast];omega)
       . rename_i hb0
         have e:m=((gD l i).f 1).l.length:=by have:=at_ge hb0;omega
         have hp : ¬ 0<((gD l i).f 1).l.length:=by rw [htk2] at hb;have:=of_decide_eq_false hb;omega
         refine zI (j':=j-1) (by omega) ⟨i+1,by omega,Sub.live ⟨?_,rfl,rfl,rfl,trivial⟩ ⟨?_,trivial⟩⟩
         . show V.own 3 _ (zAA _ i++[.str (⟨#[64]⟩++((gD l i).f 0).s)])=_
           rw [zx,dirT,parT_if,if_neg hp,List.append_nil,<- zAS,zEO];rfl
         . show some (Res.tok _ ((zAA _ i).length+1))=_
           rw [zx,List.length_append];rfl
       . exact zU (by omega)
       . exact zCG (by omega) (by omega)
   . have:=hnm (zEQ hb)
     show 1+((gD l i).f 0).s.size<=_
     unfold maxLen;omega
   . exact at_ok hb
def refB (n:List UInt8):List D->List UInt8
 |[]=>n
 |d::ds=>if d.n==1 then refB n ds++[33] else [91]++refB n ds++[93]
theorem zFH (n:List UInt8) : ∀ l,(refB n l).length<=n.length+2*l.length
 |[]=>by simp [refB]
 |d::ds=>by
  have:=zFH n ds
  unfold refB
  split<;>simp<;>omega
end Go.Proofs.YthppafnlnnpciaaGreatDoor
