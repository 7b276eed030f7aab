import Derived.Test.YthjiclhfhjdjpaaGreatDoorProg
import Derived.KernelRfl
import Derived.Test.YthjiclhfhjdjpaaGreatDoorQ27
set_option maxHeartbeats 8000000
set_option maxRecDepth 100000
set_option linter.unusedVariables false
set_option linter.unusedSimpArgs false
namespace Go.Proofs.YthjiclhfhjdjpaaGreatDoor
section
open Go.RowKit
attribute [local irreducible] wpList Calls Code.wp AW AWo OpOk seqK zAG zAP loopK endK AC zt Yld Sub
def zl (f:Nat->List UInt8) (n:Nat):List D:=(List.range n).map fun i => .str (bs (f i))
theorem zv (f:Nat->List UInt8) (n:Nat):(zl f n).length=n:=by simp [zl]
theorem zn (f:Nat->List UInt8) (n:Nat):zl f (n+1)=zl f n++[.str (bs (f n))]:=by simp [zl,List.range_succ]
theorem zAI (f:Nat->List UInt8) (n:Nat):txs (zl f n)=(List.range n).map f:=by
 unfold txs zl
 rw [List.map_map]
 exact List.map_congr_left fun i _=>zAX _
theorem txs_get {l:List D} {i:Nat} (h:i<l.length):(txs l)[i]? = some (tx (gD l i).s):=by
 unfold txs
 rw [List.getElem?_map,List.getElem?_eq_getElem h,zAQ h];rfl
theorem zCQ (l:List D) (sep:List UInt8) {i:Nat} (h:i<l.length):Lib.join ((txs l).take (i+1)) sep=if 0<i then Lib.join ((txs l).take i) sep++sep++tx (gD l i).s else tx (gD l i).s:=by
 rw [List.take_add_one,txs_get h]
 by_cases h0:0<i
 . rw [if_pos h0]
   exact zEK _ _ _ (fun e=>by have h2:=congrArg List.length e;rw [List.length_take,txs_len] at h2;simp only [List.length_nil] at h2;omega)
 . rw [if_neg h0]
   have:i=0:=by omega
   subst this
   exact Lib.join_one _ _
theorem zIS (ls:List (List UInt8)) (sep:List UInt8) (m:Nat):(Lib.join (ls.take m) sep).length<=(Lib.join ls sep).length:=zFK ls sep m
noncomputable def HJoin (l:List D) (sep:List UInt8) (i:Nat):Vst 25:=
 stS 25 [(0,.sl 9 l),(1,.c (.string (bs sep))),(5,.c (.string (bs (Lib.join ((txs l).take i) sep)))),(6,.c (.int .i64 i))] []
theorem zFJ (l:List D) (sep:List UInt8) (hn:l.length<=800000000) (hl:(Lib.join (txs l) sep).length<=800000000) (hsep:sep.length<=1000) :
 AC EN Tryz.prog 205 [.sl 9 l,.c (.string (bs sep))] (.c (.string (bs (Lib.join (txs l) sep)))):=by
 have hm:=zIS (txs l) sep
 refine zG 25 Tryz.func205 rfl rfl rfl rfl ?_
 intro s w he
 repeat' (first
|refine zB ?_
|refine zC ?_
|refine zI ?_
|apply aw_1
 conv=>whnf
 refine ⟨?_,trivial⟩
|apply s_1
 conv=>whnf;arg 1;arg 4;arg 3;whnf
 refine ⟨?_,?_⟩
|exact trivial)
 refine zi (fun j st => ∃ i,i+j=l.length/\Sub (cx EN Tryz.prog s w he) st (HJoin l sep i)) l.length ⟨0,by omega,?_⟩ ?_
 . exact Sub.live ⟨rfl,rfl,rfl,rfl,trivial⟩ trivial
 . rintro j st ⟨i,hij,hs2⟩
   refine zf hs2 ?_
   have hm1:=hm i
   have hm2:=hm (i+1)
   have hst:i<l.length->(gD l i).s.size<=800000000:=fun h=>by
    rw [zCQ l sep h] at hm2
    have:=zAF (gD l i).s
    split at hm2
    . simp only [List.length_append] at hm2;omega
    . omega
   repeat' (first
|refine zB ?_
|refine zC ?_
|refine zI ?_
|refine zY ?_
|apply aw_1
 conv=>whnf
 refine ⟨?_,trivial⟩
|apply s_1
 conv=>whnf;arg 1;arg 4;arg 3;whnf
 refine ⟨?_,?_⟩
|refine zV (by conv=>lhs;whnf) ?_ ?_<;>intro hb
|refine zN ?_
|refine zJ rfl ?_
|refine zK ?_
|refine zD ?_
|refine ⟨_,by conv=>lhs;whnf;arg 2;whnf,?_⟩;conv=>rhs;whnf
|exact trivial)
   . rename_i hb0
     have hi:i<l.length:=by simpa using hb0
     have h0:0<i:=by simpa using hb
     refine zE (j':=j-1) (by omega) ⟨i+1,by omega,Sub.live ⟨rfl,rfl,?_,rfl,trivial⟩ trivial⟩
     show V.c (.string (bs (Lib.join ((txs l).take i) sep)++bs sep++(gD l i).s))=_
     rw [zCQ l sep hi,if_pos h0,<- zU,<- zU,zA8]
   . exact za (by omega)
   . rename_i hb0
     have hi:i<l.length:=by simpa using hb0
     have:=hst hi
     rw [show ((i:Int)).toNat=i from rfl]
     (simp only [ByteArray.size_append,zS,zh,List.size_toArray,List.length_append,List.length_cons,List.length_nil,maxLen,Nat.reduceAdd,Int.toNat_natCast];omega)
   . rename_i hb0
     have hi:i<l.length:=by simpa using hb0
     omega
   . (simp only [ByteArray.size_append,zS,zh,List.size_toArray,List.length_append,List.length_cons,List.length_nil,maxLen,Nat.reduceAdd,Int.toNat_natCast];omega)
   . rename_i hb0
     have hi:i<l.length:=by simpa using hb0
     have h0 : ¬ 0<i:=by simpa using hb
     refine zE (j':=j-1) (by omega) ⟨i+1,by omega,Sub.live ⟨rfl,rfl,?_,rfl,trivial⟩ trivial⟩
     show V.c (.string (bs (Lib.join ((txs l).take i) sep)++(gD l i).s))=_
     rw [zCQ l sep hi,if_neg h0]
     have e:i=0:=by omega
     subst e
     rw [List.take_zero,Lib.join_nil,zA8]
     rfl
   . exact za (by omega)
   . rename_i hb0
     have hi:i<l.length:=by simpa using hb0
     have:=hst hi
     rw [show ((i:Int)).toNat=i from rfl]
     (simp only [ByteArray.size_append,zS,zh,List.size_toArray,List.length_append,List.length_cons,List.length_nil,maxLen,Nat.reduceAdd,Int.toNat_natCast];omega)
   . rename_i hb0
     have hi:i<l.length:=by simpa using hb0
     omega
   . have e:i=l.length:=by simp at hb;omega
     rw [e,<- txs_len l,List.take_length]
theorem zBq {l:List D} {x:D} {c:Nat} (h:l.length<=800000000) (hc:c<=1000):0<[x].length/\l.length+[x].length<=maxLen/\(l.length+[x].length)*c<=140737488355328:=by
 refine ⟨by simp,by unfold maxLen;simp;omega,?_⟩
 have:(l.length+1)*c<=800000001*1000:=Nat.mul_le_mul (by omega) hc
 simp only [List.length_cons,List.length_nil,Nat.zero_add]
 omega
theorem zDt {i n:Nat} (h:decide ((i:Int)<(n:Int))=true):0<=(i:Int)/\(i:Int)<(n:Int):=⟨by omega,of_decide_eq_true h⟩
theorem zAL {i n:Nat} (h:decide ((i:Int)<(n:Int))=true):i<n:=by have:=of_decide_eq_true h;omega
theorem zCo {i n:Nat} (h:decide ((i:Int)<(n:Int))=false):n<=i:=by have:=of_decide_eq_false h;omega
theorem sz3 {a b:UInt8} {l:List UInt8} {n:Nat} (h:l.length<=n) (hn:n<=8000000000:=by omega):((⟨#[a]⟩:ByteArray)++bs l).size+(⟨#[b]⟩:ByteArray).size<=maxLen:=by
 simp only [ByteArray.size_append,zS]
 show 1+_+1<=_
 unfold maxLen;omega
theorem sz2 {a:UInt8} {l:List UInt8} {n:Nat} (h:l.length<=n) (hn:n<=8000000000:=by omega):(⟨#[a]⟩:ByteArray).size+(bs l).size<=maxLen:=by
 simp only [zS]
 show 1+_<=_
 unfold maxLen;omega
def mI (a b:Nat):Int:=if (b:Int)<(a:Int) then b else a
theorem mI_eq (a b:Nat):mI a b=(min a b:Nat):=by unfold mI;split<;>omega
noncomputable def HzL (d:D) (f:Nat->List UInt8) (i:Nat):Vst 85:=
 stS 85 [(1,.bx 1 0),(3,.own 3 9 (zl f i)),(36,.sl 84 (d.f 3).l),(37,.c (.int .i64 (d.f 3).l.length)),(38,.c (.int .i64 i))] [(1,.box 84 (cellsV Tryz.prog 12 84 d)),(3,.tok 9 (zl f i).length)]
noncomputable def HzO (d:D) (f:Nat->List UInt8) (i:Nat):Vst 85:=
 stS 85 [(1,.bx 1 0),(3,.own 3 9 (zl f i)),(60,.c (.int .i64 (if ((d.f 3).l.length:Int)<((d.f 4).l.length:Int) then ((d.f 3).l.length:Int) else ((d.f 4).l.length:Int)))),(61,.c (.int .i64 i))] [(1,.box 84 (cellsV Tryz.prog 12 84 d)),(3,.tok 9 (zl f i).length)]
def goodV:Nat->D->Prop
 |0,_=>True
 |k+1,d=>((d.f 0).n=1->(d.f 1).n=0\/(d.f 1).n=1) /\ ∀ i,i<(d.f 3).l.length->goodV k (gD (d.f 3).l i)
theorem zHt (k:Nat) (d:D) (hw:wideD d) (hb:bulkD d<=8388608):(Lib.join ((List.range (d.f 3).l.length).map fun i=>valT k (gD (d.f 3).l i)) commaT).length<=208000000:=by
 have:=zBD (d.f 3).l.length (fun i=>valT k (gD (d.f 3).l i)) commaT (fun i=>24*bulkD (gD (d.f 3).l i)) fun i hi=>zBW k _ ((hw.f 3).l i)
 rw [zCI,<- zBK] at this
 have h3:=zr (d.f 3)
 have h4:=wD_f d 3
 have h5:=zW d
 omega
theorem zFW (k:Nat) (d:D) (hw:wideD d) (hb:bulkD d<=8388608):(Lib.join ((List.range (min (d.f 4).l.length (d.f 3).l.length)).map fun i=>tx (gD (d.f 4).l i).s++[58,32]++valT k (gD (d.f 3).l i)) commaT).length<=416000000:=by
 have:=zBD (min (d.f 4).l.length (d.f 3).l.length) (fun i=>tx (gD (d.f 4).l i).s++[58,32]++valT k (gD (d.f 3).l i)) commaT (fun i=>24*bulkD (gD (d.f 4).l i)+24*bulkD (gD (d.f 3).l i)) fun i hi=>by
  have a:=zBW k (gD (d.f 3).l i) ((hw.f 3).l i)
  have b:=zy (gD (d.f 4).l i)
  have c:=zW (gD (d.f 4).l i)
  have e:=zAF (gD (d.f 4).l i).s
  have e':commaT.length=2:=rfl
  simp only [List.length_append,List.length_cons,List.length_nil]
  omega
 rw [zG7,zCI,zCI] at this
 have a1:=zBd (fun i=>bulkD (gD (d.f 4).l i)) (show min (d.f 4).l.length (d.f 3).l.length<=(d.f 4).l.length by omega)
 have a2:=zBd (fun i=>bulkD (gD (d.f 3).l i)) (show min (d.f 4).l.length (d.f 3).l.length<=(d.f 3).l.length by omega)
 rw [<- zBK] at a1 a2
 have h3:=zr (d.f 3)
 have h4:=zr (d.f 4)
 have h5:=wD_f d 3
 have h6:=wD_f d 4
 have h7:=zW d
 omega
theorem zJ9 (d:D) (hb:bulkD d<=8388608):(d.f 2).s.size<=8388608/\(d.f 3).l.length<=8388608/\(d.f 4).l.length<=8388608:=by
 have len : ∀ l:List D,l.length<=bulkL l:=fun l=>by
  induction l with
  |nil=>exact Nat.zero_le _
  |cons x r ih=>have:=zAj x;simp only [List.length_cons,bulkL];omega
 have h2:=zy (d.f 2)
 have h3:=zr (d.f 3)
 have h4:=zr (d.f 4)
 have h5:=wD_f d 2
 have h6:=wD_f d 3
 have h7:=wD_f d 4
 have h8:=zW d
 have:=len (d.f 3).l
 have:=len (d.f 4).l
 omega
theorem zHu {k:Nat} {d:D} (h:(d.f 0).n=5):valT (k+1) d=[91]++Lib.join ((List.range (d.f 3).l.length).map fun i=>valT k (gD (d.f 3).l i)) commaT++[93]:=by
 rw [valT,h];rfl
theorem zG3 {k:Nat} {d:D} (h:(d.f 0).n=6):valT (k+1) d=[123]++Lib.join ((List.range (min (d.f 4).l.length (d.f 3).l.length)).map fun i=>tx (gD (d.f 4).l i).s++[58,32]++valT k (gD (d.f 3).l i)) commaT++[125]:=by
 rw [valT,h];rfl
theorem zD2 : ∀ (k:Nat) (d:D),Dp k d->wideD d->goodV k d->bulkD d<=8388608->AC EN Tryz.prog 122 [.agg (cellsV Tryz.prog 12 84 d)] (.c (.string (bs (valT k d))))
 |0,_,h,_,_,_=>h.elim
 |k+1,d,h,hw,hg,hb=>by
  obtain ⟨hs,hl3,hl4⟩:=zJ9 d hb
  have hn:=(hw.f 1).n
  have hdec:=zJq (d.f 1).n hn.1 hn.2
  have hq:=quoteP_ac (d.f 2).s hs
  have hit:=zHt k d hw hb
  have hen:=zFW k d hw hb
  have ih : ∀ i,i<(d.f 3).l.length->AC EN Tryz.prog 122 [.agg (cellsV Tryz.prog 12 84 (gD (d.f 3).l i))] (.c (.string (bs (valT k (gD (d.f 3).l i))))):=fun i hi =>
   zD2 k _ (h i hi) ((hw.f 3).l i) (hg.2 i hi) (by have:=zBJ hi;have:=zW d;omega)
  have hjl:=zCR (zl (fun i=>valT k (gD (d.f 3).l i)) (d.f 3).l.length) [44,32] (by rw [zv];omega) (by rw [zAI];exact Nat.le_trans hit (by omega))
  have hjo:=zCR (zl (fun i=>tx (gD (d.f 4).l i).s++[58,32]++valT k (gD (d.f 3).l i)) (min (d.f 4).l.length (d.f 3).l.length)) [44,32] (by rw [zv];omega) (by rw [zAI];exact Nat.le_trans hen (by omega))
  refine zG 85 Tryz.func122 rfl rfl rfl rfl ?_
  intro s w he
  repeat' (first
|refine zB ?_
|refine zC ?_
|refine zI ?_
|refine zY ?_
|apply aw_1
 conv=>whnf
 refine ⟨?_,trivial⟩
|apply s_1
 conv=>whnf;arg 1;arg 4;arg 3;whnf
 refine ⟨?_,?_⟩
|apply zd rfl
 . conv=>lhs;whnf
 . conv=>lhs;whnf
 . first | exact hdec | exact hq
|apply zAE rfl rfl rfl rfl
 . conv=>lhs;whnf;arg 1;whnf
 . rfl
|refine zV (by conv=>lhs;whnf) ?_ ?_<;>intro hb
|refine zO ?_
|refine zT ?_
|refine zD ?_
|refine ⟨_,by conv=>lhs;whnf;arg 2;whnf,?_⟩;conv=>rhs;whnf
|exact trivial)
  . rename_i h0
    rw [valT,if_pos (by simpa using h0),if_neg (by have h1:(d.f 1).n=0:=by simpa using hb
                                                   rw [h1];decide)];rfl
  . rename_i h0
    have h1 : ¬ (d.f 1).n=0:=by simpa using hb
    rw [valT,if_pos (by simpa using h0),if_pos ((hg.1 (by simpa using h0)).resolve_left h1)];rfl
  . rename_i h0
    rw [valT,if_neg (by simpa using h0),if_pos (by simpa using hb)]
  . rename_i h0 h1
    rw [valT,if_neg (by simpa using h0),if_neg (by simpa using h1),if_pos (by simpa using hb)]
  . rename_i h0 h1 h2
    rw [valT,if_neg (by simpa using h0),if_neg (by simpa using h1),if_neg (by simpa using h2),if_pos (by simpa using hb),zA8]
  . rename_i h0 h1 h2 h3
    rw [valT,if_neg (by simpa using h0),if_neg (by simpa using h1),if_neg (by simpa using h2),if_neg (by simpa using h3),if_pos (by simpa using hb),<- zU,zA8];rfl
  . have:(d.f (0+1+1)).s.size<=8388608:=hs
    show 1+_<=_
    unfold maxLen;omega
  . have hk:(d.f 0).n=5:=by simpa using hb
    refine zf (Sub.own (t:=3) (e:=9) rfl rfl) ?_
    refine zi (fun j st => ∃ i,i+j=(d.f 3).l.length/\Sub (cx EN Tryz.prog s w he) st (HzL d (fun i=>valT k (gD (d.f 3).l i)) i)) (d.f 3).l.length ⟨0,by omega,?_⟩ ?_
    . exact Sub.live ⟨rfl,rfl,rfl,rfl,rfl,trivial⟩ ⟨rfl,rfl,trivial⟩
    . rintro j st ⟨i,hij,hs2⟩
      refine zf hs2 ?_
      have htk:=zv (fun i=>valT k (gD (d.f 3).l i)) i
      have ih2:=fun (h:decide ((i:Int)<(d.f 3).l.length)=true)=>ih i (by simpa using h)
      have hjl2:decide ((i:Int)<(d.f 3).l.length)=false->AC EN Tryz.prog 59 [.sl 9 (zl (fun i=>valT k (gD (d.f 3).l i)) i),.c (.string (bs [44,32]))] (.c (.string (bs (Lib.join (txs (zl (fun i=>valT k (gD (d.f 3).l i)) (d.f 3).l.length)) [44,32])))):=fun h=>by
       have e:i=(d.f 3).l.length:=by simp at h;omega
       rw [e];exact hjl
      repeat' (first
|refine zB ?_
|refine zC ?_
|refine zI ?_
|refine zY ?_
|apply aw_1
 conv=>whnf
 refine ⟨?_,trivial⟩
|apply s_1
 conv=>whnf;arg 1;arg 4;arg 3;whnf
 refine ⟨?_,?_⟩
|apply zd rfl
 . conv=>lhs;whnf
 . conv=>lhs;whnf
 . first | exact ih2 ‹_› | exact hjl2 ‹_›
|apply zX rfl rfl rfl
 . conv=>lhs;whnf
 . conv=>lhs;whnf;arg 1;whnf
 . conv=>lhs;whnf;arg 1;whnf
 . exact ⟨by kernel_rfl,by kernel_rfl⟩
 . rfl
|apply zCD rfl rfl
 . conv=>lhs;whnf
 . first | exact zw | (conv=>lhs;whnf;arg 1;whnf)
 . first | exact fun _=>rfl | (intro _;kernel_rfl)
 . conv=>lhs;whnf
 . conv=>lhs;whnf;arg 1;whnf
 . conv=>lhs;whnf
|apply zDb rfl rfl
 . conv=>lhs;whnf
 . first | exact zw | (conv=>lhs;whnf;arg 1;whnf)
 . conv=>lhs;whnf;arg 1;whnf
 . rfl
 . rfl
|refine zV (by conv=>lhs;whnf) ?_ ?_<;>intro hb
|refine zN ?_
|refine zO ?_
|refine zT ?_
|refine zJ rfl ?_
|refine zK ?_
|refine zD ?_
|refine ⟨_,by conv=>lhs;whnf;arg 2;whnf,?_⟩;conv=>rhs;whnf
|exact trivial)
      . have hi:=zAL hb
        refine zE (j':=j-1) (by omega) ⟨i+1,by omega,Sub.live ⟨rfl,?_,rfl,rfl,rfl,trivial⟩ ⟨rfl,?_,trivial⟩⟩
        . show V.own 3 _ (zl _ i++[.str (bs _)])=_
          rw [<- zn]
        . show some (Res.tok _ ((zl _ i).length+1))=_
          rw [zn,List.length_append];rfl
      . exact za (by omega)
      . exact zBq (by omega) (by omega)
      . exact zDt hb
      . rw [zHu hk,zAI,<- zU,<- zU];rfl
      . rw [zAI];exact sz3 hit
      . rw [zAI];exact sz2 hit
  . have hk:(d.f 0).n=6:=by simpa using hb
    refine zf (Sub.own (t:=3) (e:=9) rfl rfl) ?_
    refine zi (fun j st => ∃ i,i+j=min (d.f 4).l.length (d.f 3).l.length/\Sub (cx EN Tryz.prog s w he) st (HzO d (fun i=>tx (gD (d.f 4).l i).s++[58,32]++valT k (gD (d.f 3).l i)) i)) (min (d.f 4).l.length (d.f 3).l.length) ⟨0,by omega,?_⟩ ?_
    . exact Sub.live ⟨rfl,rfl,rfl,rfl,trivial⟩ ⟨rfl,rfl,trivial⟩
    . rintro j st ⟨i,hij,hs2⟩
      refine zf hs2 ?_
      have htk:=zv (fun i=>tx (gD (d.f 4).l i).s++[58,32]++valT k (gD (d.f 3).l i)) i
      have hlt:decide ((i:Int)<mI (d.f 4).l.length (d.f 3).l.length)=true->i<(d.f 3).l.length/\i<(d.f 4).l.length:=fun h=>by
       rw [mI_eq] at h
       have:=zAL h
       omega
      have ih2:=fun (h:decide ((i:Int)<mI (d.f 4).l.length (d.f 3).l.length)=true)=>ih i (hlt h).1
      have hjo2:decide ((i:Int)<mI (d.f 4).l.length (d.f 3).l.length)=false->AC EN Tryz.prog 59 [.sl 9 (zl (fun i=>tx (gD (d.f 4).l i).s++[58,32]++valT k (gD (d.f 3).l i)) i),.c (.string (bs [44,32]))] (.c (.string (bs (Lib.join (txs (zl (fun i=>tx (gD (d.f 4).l i).s++[58,32]++valT k (gD (d.f 3).l i)) (min (d.f 4).l.length (d.f 3).l.length))) [44,32])))):=fun h=>by
       rw [mI_eq] at h
       have e:i=min (d.f 4).l.length (d.f 3).l.length:=by have:=zCo h;omega
       rw [e];exact hjo
      have hks:i<(d.f 4).l.length->(gD (d.f 4).l i).s.size<=8388608:=fun hi=>by
       have:=zy (gD (d.f 4).l i)
       have:=zW (gD (d.f 4).l i)
       have:=zBJ hi
       have:=zW d
       omega
      have hvs:i<(d.f 3).l.length->(valT k (gD (d.f 3).l i)).length<=208000000:=fun hi=>by
       have:=zBW k _ ((hw.f 3).l i)
       have:=zBJ hi
       have:=zW d
       omega
      repeat' (first
|refine zB ?_
|refine zC ?_
|refine zI ?_
|refine zY ?_
|apply aw_1
 conv=>whnf
 refine ⟨?_,trivial⟩
|apply s_1
 conv=>whnf;arg 1;arg 4;arg 3;whnf
 refine ⟨?_,?_⟩
|apply zd rfl
 . conv=>lhs;whnf
 . conv=>lhs;whnf
 . first | exact ih2 ‹_› | exact hjo2 ‹_›
|apply zAD (by kernel_rfl) (by kernel_rfl)
|apply zAq
|apply zAp rfl
 . conv=>lhs;whnf
 . conv=>lhs;whnf;arg 2;whnf
|apply zA9 rfl
 . conv=>lhs;whnf
 . conv=>lhs;whnf
 . first | exact ih2 ‹_› | exact hjo2 ‹_›
|apply y_app rfl rfl
 . conv=>lhs;whnf
 . first | exact zw | (conv=>lhs;whnf;arg 1;whnf)
 . first | exact fun _=>rfl | (intro _;kernel_rfl)
 . conv=>lhs;whnf
 . rfl
 . rfl
 . conv=>lhs;whnf;arg 1;whnf
 . conv=>lhs;whnf
|apply zEw rfl rfl
 . conv=>lhs;whnf
 . first | exact zw | (conv=>lhs;whnf;arg 1;whnf)
 . conv=>lhs;whnf;arg 1;whnf
 . rfl
 . rfl
|exact zj
|show zBr _ _=true;rfl
|refine zV (by conv=>lhs;whnf) ?_ ?_<;>intro hb
|refine zN ?_
|refine zO ?_
|refine zT ?_
|refine zJ rfl ?_
|refine zK ?_
|refine zD ?_
|refine ⟨_,by conv=>lhs;whnf;arg 2;whnf,?_⟩;conv=>rhs;whnf
|exact trivial)
      . refine zE (j':=j-1) (by have:=hlt hb;omega) ⟨i+1,by have:=hlt hb;omega,Sub.live ⟨rfl,?_,rfl,rfl,trivial⟩ ⟨rfl,?_,trivial⟩⟩
        . show V.own 3 _ (zl _ i++[.str ((gD (d.f 4).l i).s++⟨#[58,32]⟩++bs _)])=_
          rw [zn,<- zU,<- zU,zA8];rfl
        . show some (Res.tok _ ((zl _ i).length+1))=_
          rw [zn,List.length_append];rfl
      . exact za (by have:=hlt hb;omega)
      . exact zBq (by have:=hlt hb;omega) (by omega)
      . have h1:=hks (hlt hb).2
        have h2:=hvs (hlt hb).1
        rw [ByteArray.size_append,zS]
        show (gD (d.f 4).l i).s.size+2+_<=_
        unfold maxLen;omega
      . have:=(hlt hb).1
        exact ⟨by omega,by show (i:Int)<((d.f 3).l.length:Int);omega⟩
      . have h1:=hks (hlt hb).2
        show (gD (d.f 4).l i).s.size+2<=_
        unfold maxLen;omega
      . have:=(hlt hb).2
        exact ⟨by omega,by show (i:Int)<((d.f 4).l.length:Int);omega⟩
      . rw [zG3 hk,zAI,<- zU,<- zU];rfl
      . rw [zAI];exact sz3 hen
      . rw [zAI];exact sz2 hen
  . rename_i h0 h1 h2 h3 h4 h5
    rw [valT,if_neg (by simpa using h0),if_neg (by simpa using h1),if_neg (by simpa using h2),if_neg (by simpa using h3),if_neg (by simpa using h4),if_neg (by simpa using h5),if_neg (by simpa using hb)];rfl
noncomputable def HrL (d:D) (f:Nat->List UInt8) (i:Nat):Vst 91:=
 stS 91 [(1,.bx 1 0),(3,.own 3 9 (zl f i)),(4,.c (.int .i64 i))] [(1,.box 84 (cellsV Tryz.prog 12 84 d)),(3,.tok 9 (zl f i).length)]
noncomputable def HrO (d:D) (f:Nat->List UInt8) (i:Nat):Vst 91:=
 stS 91 [(1,.bx 1 0),(5,.own 5 9 (zl f i)),(6,.c (.int .i64 i))] [(1,.box 84 (cellsV Tryz.prog 12 84 d)),(5,.tok 9 (zl f i).length)]
theorem zD1 : ∀ (k:Nat) (d:D),Dp k d->wideD d->bulkD d<=8388608->AC EN Tryz.prog 125 [.agg (cellsV Tryz.prog 12 84 d)] (.c (.string (bs (valT k d))))
 |0,_,h,_,_=>h.elim
 |k+1,d,h,hw,hb=>by
  obtain ⟨hs,hl3,hl4⟩:=zJ9 d hb
  have hn:=(hw.f 1).n
  have hdec:=zJp (d.f 1).n hn.1 hn.2
  have hq:=quoteR_ac (d.f 2).s hs
  have hit:=zHt k d hw hb
  have hen:=zFW k d hw hb
  have ih : ∀ i,i<(d.f 3).l.length->AC EN Tryz.prog 125 [.agg (cellsV Tryz.prog 12 84 (gD (d.f 3).l i))] (.c (.string (bs (valT k (gD (d.f 3).l i))))):=fun i hi =>
   zD1 k _ (h i hi) ((hw.f 3).l i) (by have:=zBJ hi;have:=zW d;omega)
  have hjl:=zFJ (zl (fun i=>valT k (gD (d.f 3).l i)) (d.f 3).l.length) [44,32] (by rw [zv];omega) (by rw [zAI];exact Nat.le_trans hit (by omega)) (by decide)
  have hjo:=zFJ (zl (fun i=>tx (gD (d.f 4).l i).s++[58,32]++valT k (gD (d.f 3).l i)) (min (d.f 4).l.length (d.f 3).l.length)) [44,32] (by rw [zv];omega) (by rw [zAI];exact Nat.le_trans hen (by omega)) (by decide)
  refine zG 91 Tryz.func125 rfl rfl rfl rfl ?_
  intro s w he
  repeat' (first
|refine zB ?_
|refine zC ?_
|refine zI ?_
|refine zY ?_
|apply aw_1
 conv=>whnf
 refine ⟨?_,trivial⟩
|apply s_1
 conv=>whnf;arg 1;arg 4;arg 3;whnf
 refine ⟨?_,?_⟩
|apply zd rfl
 . conv=>lhs;whnf
 . conv=>lhs;whnf
 . first | exact hdec | exact hq
|apply zAE rfl rfl rfl rfl
 . conv=>lhs;whnf;arg 1;whnf
 . rfl
|refine zV (by conv=>lhs;whnf) ?_ ?_<;>intro hb
|refine zO ?_
|refine zT ?_
|refine zD ?_
|refine ⟨_,by conv=>lhs;whnf;arg 2;whnf,?_⟩;conv=>rhs;whnf
|exact trivial)
  . rename_i h0
    rw [valT,if_pos (by simpa using h0),if_pos (by simpa using hb)];rfl
  . rename_i h0
    rw [valT,if_pos (by simpa using h0),if_neg (by simpa using hb)];rfl
  . rename_i h0
    rw [valT,if_neg (by simpa using h0),if_pos (by simpa using hb)]
  . rename_i h0 h1
    rw [valT,if_neg (by simpa using h0),if_neg (by simpa using h1),if_pos (by simpa using hb)]
  . rename_i h0 h1 h2
    rw [valT,if_neg (by simpa using h0),if_neg (by simpa using h1),if_neg (by simpa using h2),if_pos (by simpa using hb),zA8]
  . rename_i h0 h1 h2 h3
    rw [valT,if_neg (by simpa using h0),if_neg (by simpa using h1),if_neg (by simpa using h2),if_neg (by simpa using h3),if_pos (by simpa using hb),<- zU,zA8];rfl
  . have:(d.f (0+1+1)).s.size<=8388608:=hs
    show 1+_<=_
    unfold maxLen;omega
  . have hk:(d.f 0).n=5:=by simpa using hb
    refine zf (Sub.own (t:=3) (e:=9) rfl rfl) ?_
    refine zi (fun j st => ∃ i,i+j=(d.f 3).l.length/\Sub (cx EN Tryz.prog s w he) st (HrL d (fun i=>valT k (gD (d.f 3).l i)) i)) (d.f 3).l.length ⟨0,by omega,?_⟩ ?_
    . exact Sub.live ⟨rfl,rfl,rfl,trivial⟩ ⟨rfl,rfl,trivial⟩
    . rintro j st ⟨i,hij,hs2⟩
      refine zf hs2 ?_
      have htk:=zv (fun i=>valT k (gD (d.f 3).l i)) i
      have ih2:=fun (h:decide ((i:Int)<(d.f 3).l.length)=true)=>ih i (by simpa using h)
      have hjl2:decide ((i:Int)<(d.f 3).l.length)=false->AC EN Tryz.prog 205 [.sl 9 (zl (fun i=>valT k (gD (d.f 3).l i)) i),.c (.string (bs [44,32]))] (.c (.string (bs (Lib.join (txs (zl (fun i=>valT k (gD (d.f 3).l i)) (d.f 3).l.length)) [44,32])))):=fun h=>by
       have e:i=(d.f 3).l.length:=by simp at h;omega
       rw [e];exact hjl
      repeat' (first
|refine zB ?_
|refine zC ?_
|refine zI ?_
|refine zY ?_
|apply aw_1
 conv=>whnf
 refine ⟨?_,trivial⟩
|apply s_1
 conv=>whnf;arg 1;arg 4;arg 3;whnf
 refine ⟨?_,?_⟩
|apply zd rfl
 . conv=>lhs;whnf
 . conv=>lhs;whnf
 . first | exact ih2 ‹_› | exact hjl2 ‹_›
|apply zCD rfl rfl
 . conv=>lhs;whnf
 . first | exact zw | (conv=>lhs;whnf;arg 1;whnf)
 . first | exact fun _=>rfl | (intro _;kernel_rfl)
 . conv=>lhs;whnf
 . conv=>lhs;whnf;arg 1;whnf
 . conv=>lhs;whnf
|apply zDb rfl rfl
 . conv=>lhs;whnf
 . first | exact zw | (conv=>lhs;whnf;arg 1;whnf)
 . conv=>lhs;whnf;arg 1;whnf
 . rfl
 . rfl
|refine zV (by conv=>lhs;whnf) ?_ ?_<;>intro hb
|refine zN ?_
|refine zO ?_
|refine zT ?_
|refine zJ rfl ?_
|refine zK ?_
|refine zD ?_
|refine ⟨_,by conv=>lhs;whnf;arg 2;whnf,?_⟩;conv=>rhs;whnf
|exact trivial)
      . have hi:i<(d.f 3).l.length:=zAL hb
        refine zE (j':=j-1) (by omega) ⟨i+1,by omega,Sub.live ⟨rfl,?_,rfl,trivial⟩ ⟨rfl,?_,trivial⟩⟩
        . show V.own 3 _ (zl _ i++[.str (bs _)])=_
          rw [<- zn]
        . show some (Res.tok _ ((zl _ i).length+1))=_
          rw [zn,List.length_append];rfl
      . exact za (by omega)
      . exact zBq (by omega) (by omega)
      . exact zDt hb
      . rw [zHu hk,zAI,<- zU,<- zU];rfl
      . rw [zAI];exact sz3 hit
      . rw [zAI];exact sz2 hit
  . have hk:(d.f 0).n=6:=by simpa using hb
    refine zf (Sub.own (t:=5) (e:=9) rfl rfl) ?_
    refine zi (fun j st => ∃ i,i+j=min (d.f 4).l.length (d.f 3).l.length/\Sub (cx EN Tryz.prog s w he) st (HrO d (fun i=>tx (gD (d.f 4).l i).s++[58,32]++valT k (gD (d.f 3).l i)) i)) (min (d.f 4).l.length (d.f 3).l.length) ⟨0,by omega,?_⟩ ?_
    . exact Sub.live ⟨rfl,rfl,rfl,trivial⟩ ⟨rfl,rfl,trivial⟩
    . rintro j st ⟨i,hij,hs2⟩
      refine zf hs2 ?_
      have htk:=zv (fun i=>tx (gD (d.f 4).l i).s++[58,32]++valT k (gD (d.f 3).l i)) i
      have ih2:=fun (h:decide ((i:Int)<(d.f 3).l.length)=true)=>ih i (by simpa using h)
      have hjo2:(decide ((i:Int)<(d.f 3).l.length)=false\/decide ((i:Int)<(d.f 4).l.length)=false)->AC EN Tryz.prog 205 [.sl 9 (zl (fun i=>tx (gD (d.f 4).l i).s++[58,32]++valT k (gD (d.f 3).l i)) i),.c (.string (bs [44,32]))] (.c (.string (bs (Lib.join (txs (zl (fun i=>tx (gD (d.f 4).l i).s++[58,32]++valT k (gD (d.f 3).l i)) (min (d.f 4).l.length (d.f 3).l.length))) [44,32])))):=fun h=>by
       have e:i=min (d.f 4).l.length (d.f 3).l.length:=by rcases h with h | h<;>have:=zCo h<;>omega
       rw [e];exact hjo
      have hks:i<(d.f 4).l.length->(gD (d.f 4).l i).s.size<=8388608:=fun hi=>by
       have:=zy (gD (d.f 4).l i)
       have:=zW (gD (d.f 4).l i)
       have:=zBJ hi
       have:=zW d
       omega
      have hvs:i<(d.f 3).l.length->(valT k (gD (d.f 3).l i)).length<=208000000:=fun hi=>by
       have:=zBW k _ ((hw.f 3).l i)
       have:=zBJ hi
       have:=zW d
       omega
      repeat' (first
|refine zB ?_
|refine zC ?_
|refine zI ?_
|refine zY ?_
|apply aw_1
 conv=>whnf
 refine ⟨?_,trivial⟩
|apply ze rfl rfl
 . conv=>lhs;whnf
 . conv=>lhs;whnf
 . first | exact bT1 ‹_› | exact bT2 ‹_›
|apply zZ rfl rfl
 . conv=>lhs;whnf
 . conv=>lhs;whnf
 . first | exact bF1 ‹_› | exact bF2 ‹_›
|apply s_1
 conv=>whnf;arg 1;arg 4;arg 3;whnf
 refine ⟨?_,?_⟩
|apply zd rfl
 . conv=>lhs;whnf
 . conv=>lhs;whnf
 . first | exact ih2 (bT1 ‹_›) | exact hjo2 (.inr ‹_›) | exact hjo2 (.inl (bF1 ‹_›))
|apply zF rfl
 . conv=>lhs;whnf
 . conv=>lhs;whnf
 . first | rfl | assumption
 . conv=>lhs;whnf;arg 2;whnf
|apply zH8 rfl
 . conv=>lhs;whnf
 . conv=>lhs;whnf
 . first | rfl | assumption
|apply zBR rfl
 . conv=>lhs;whnf
 . conv=>lhs;whnf
 . conv=>lhs;whnf;arg 2;whnf
|apply zAD (by kernel_rfl) (by kernel_rfl)
|apply zAq
|apply zAp rfl
 . conv=>lhs;whnf
 . conv=>lhs;whnf;arg 2;whnf
|apply zA9 rfl
 . conv=>lhs;whnf
 . conv=>lhs;whnf
 . first | exact ih2 (bT1 ‹_›) | exact hjo2 (.inr ‹_›) | exact hjo2 (.inl (bF1 ‹_›))
|apply y_app rfl rfl
 . conv=>lhs;whnf
 . first | exact zw | (conv=>lhs;whnf;arg 1;whnf)
 . first | exact fun _=>rfl | (intro _;kernel_rfl)
 . conv=>lhs;whnf
 . rfl
 . rfl
 . conv=>lhs;whnf;arg 1;whnf
 . conv=>lhs;whnf
|apply zEw rfl rfl
 . conv=>lhs;whnf
 . first | exact zw | (conv=>lhs;whnf;arg 1;whnf)
 . conv=>lhs;whnf;arg 1;whnf
 . rfl
 . rfl
|exact zj
|show zBr _ _=true;rfl
|refine zV (by conv=>lhs;whnf) ?_ ?_<;>intro hb
|refine zN ?_
|refine zO ?_
|refine zT ?_
|refine zJ rfl ?_
|refine zK ?_
|refine zD ?_
|refine ⟨_,by conv=>lhs;whnf;arg 2;whnf,?_⟩;conv=>rhs;whnf
|exact trivial
|intro hg)
      . have hi:i<(d.f 3).l.length:=zAL (bT1 hg)
        have hi4:i<(d.f 4).l.length:=zAL hb
        refine zE (j':=j-1) (by omega) ⟨i+1,by omega,Sub.live ⟨rfl,?_,rfl,trivial⟩ ⟨rfl,?_,trivial⟩⟩
        . show V.own 5 _ (zl _ i++[.str ((gD (d.f 4).l i).s++⟨#[58,32]⟩++bs _)])=_
          rw [zn,<- zU,<- zU,zA8];rfl
        . show some (Res.tok _ ((zl _ i).length+1))=_
          rw [zn,List.length_append];rfl
      . have hi:i<(d.f 3).l.length:=zAL (bT1 hg)
        exact za (by omega)
      . have hi:i<(d.f 3).l.length:=zAL (bT1 hg)
        exact zBq (by omega) (by omega)
      . have h1:=hks (zAL hb)
        have h2:=hvs (zAL (bT1 hg))
        rw [ByteArray.size_append,zS]
        show (gD (d.f 4).l i).s.size+2+_<=_
        unfold maxLen;omega
      . exact zDt (bT1 hg)
      . have h1:=hks (zAL hb)
        show (gD (d.f 4).l i).s.size+2<=_
        unfold maxLen;omega
      . exact zDt hb
      . rw [zG3 hk,zAI,<- zU,<- zU];rfl
      . rw [zAI];exact sz3 hen
      . rw [zAI];exact sz2 hen
      . rw [zG3 hk,zAI,<- zU,<- zU];rfl
      . rw [zAI];exact sz3 hen
      . rw [zAI];exact sz2 hen
  . rename_i h0 h1 h2 h3 h4 h5
    rw [valT,if_neg (by simpa using h0),if_neg (by simpa using h1),if_neg (by simpa using h2),if_neg (by simpa using h3),if_neg (by simpa using h4),if_neg (by simpa using h5),if_neg (by simpa using hb)];rfl
structure ArgsOk (k:Nat) (l:List D):Prop where
 wide : ∀ i,wideD (gD l i)
 bulk:bulkL l<=8388608
 dp : ∀ i,i<l.length->Dp k ((gD l i).f 1)
 good : ∀ i,i<l.length->goodV k ((gD l i).f 1)
structure DirsOk (k:Nat) (l:List D):Prop where
 wide : ∀ i,wideD (gD l i)
 bulk:bulkL l<=8388608
 args : ∀ i,i<l.length->ArgsOk k ((gD l i).f 1).l
theorem zAK (l:List D):l.length<=bulkL l:=by
 induction l with
 |nil=>exact Nat.zero_le _
 |cons x r ih=>have:=zAj x;simp only [List.length_cons,bulkL];omega
theorem zAT (f:D->List UInt8) (l:List D):txs (zl (fun i=>f (gD l i)) l.length)=l.map f:=by
 rw [zAI]
 apply List.ext_getElem (by simp)
 intro i h1 h2
 simp [zAQ (l:=l) (i:=i) (by simpa using h1)]
theorem ArgsOk.val {k:Nat} {l:List D} (h:ArgsOk k l) {i:Nat} (hi:i<l.length):bulkD ((gD l i).f 1)<=8388608:=by
 have:=zu hi
 have:=wD_f (gD l i) 1
 have:=zW ((gD l i).f 1)
 have:=zW (gD l i)
 have:=h.bulk
 omega
theorem ArgsOk.name {k:Nat} {l:List D} (h:ArgsOk k l) {i:Nat} (hi:i<l.length):((gD l i).f 0).s.size<=8388608:=by
 have:=zu hi
 have:=wD_f (gD l i) 0
 have:=zy ((gD l i).f 0)
 have:=zW (gD l i)
 have:=h.bulk
 omega
theorem ArgsOk.text {k:Nat} {l:List D} (h:ArgsOk k l) {i:Nat} (hi:i<l.length):(valT k ((gD l i).f 1)).length<=208000000:=by
 have:=h.val hi
 have:=zBW k ((gD l i).f 1) ((h.wide i).f 1)
 omega
theorem DirsOk.name {k:Nat} {l:List D} (h:DirsOk k l) {i:Nat} (hi:i<l.length):((gD l i).f 0).s.size<=8388608:=by
 have:=zu hi
 have:=wD_f (gD l i) 0
 have:=zy ((gD l i).f 0)
 have:=zW (gD l i)
 have:=h.bulk
 omega
theorem DirsOk.par {k:Nat} {l:List D} (h:DirsOk k l) {i:Nat} (hi:i<l.length):(zDu k ((gD l i).f 1).l).length<=240000000:=by
 have:=zEV k ((gD l i).f 1).l (h.args i hi).wide
 have:=(h.args i hi).bulk
 omega
theorem ArgsOk.len {k:Nat} {l:List D} (h:ArgsOk k l):l.length<=8388608:=Nat.le_trans (zAK l) h.bulk
theorem DirsOk.len {k:Nat} {l:List D} (h:DirsOk k l):l.length<=8388608:=Nat.le_trans (zAK l) h.bulk
theorem zHI (k:Nat) (l:List D):parT k l=if 0<l.length then [40]++zDu k l++[41] else []:=by
 unfold parT
 by_cases h:l.length=0
 . rw [if_pos h,if_neg (by omega)]
 . rw [if_neg h,if_pos (by omega)]
noncomputable def HdP (k:Nat) (l:List D) (i:Nat):Vst 53:=
 stS 53 [(3,.own 3 9 (zl (fun i=>dirT k (gD l i)) i)),(10,.sl 150 l),(11,.c (.int .i64 l.length)),(12,.c (.int .i64 i))] [(3,.tok 9 (zl (fun i=>dirT k (gD l i)) i).length)]
noncomputable def HaP (k:Nat) (l:List D) (i m:Nat):Vst 53:=
 stS 53 [(3,.own 3 9 (zl (fun i=>dirT k (gD l i)) i)),(6,.c (.string (⟨#[64]⟩++((gD l i).f 0).s))),(7,.own 7 9 (zl (fun j=>argT k (gD ((gD l i).f 1).l j)) m)),(10,.sl 150 l),(11,.c (.int .i64 l.length)),(12,.c (.int .i64 i)),(20,.sl 86 ((gD l i).f 1).l),(21,.c (.int .i64 ((gD l i).f 1).l.length)),(22,.c (.int .i64 m))]
  [(3,.tok 9 (zl (fun i=>dirT k (gD l i)) i).length),(7,.tok 9 (zl (fun j=>argT k (gD ((gD l i).f 1).l j)) m).length)]
theorem dirsP_ac (k:Nat) (l:List D) (h:DirsOk k l):AC EN Tryz.prog 185 [.sl 150 l] (.c (.string (bs (zGI k l)))):=by
 have hlen:=h.len
 have hds:=zDD k l h.wide
 have hbk:=h.bulk
 have hj:=zCR (zl (fun i=>dirT k (gD l i)) l.length) [32] (by rw [zv];omega) (by rw [zAT];exact Nat.le_trans hds (by omega))
 rw [zAT] at hj
 refine zG 53 Tryz.func185 rfl rfl rfl rfl ?_
 intro s w he
 repeat' (first
|refine zB ?_
|refine zC ?_
|refine zI ?_
|apply aw_1
 conv=>whnf
 refine ⟨?_,trivial⟩
|apply s_1
 conv=>whnf;arg 1;arg 4;arg 3;whnf
 refine ⟨?_,?_⟩
|exact trivial)
 refine zf (Sub.own (t:=3) (e:=9) rfl rfl) ?_
 refine zi (fun j st => ∃ i,i+j=l.length/\Sub (cx EN Tryz.prog s w he) st (HdP k l i)) l.length ⟨0,by omega,?_⟩ ?_
 . exact Sub.live ⟨rfl,rfl,rfl,rfl,trivial⟩ ⟨rfl,trivial⟩
 . rintro j st ⟨i,hij,hs2⟩
   refine zf hs2 ?_
   have htk:=zv (fun i=>dirT k (gD l i)) i
   have hj2:decide ((i:Int)<(l.length:Int))=false->AC EN Tryz.prog 59 [.sl 9 (zl (fun i=>dirT k (gD l i)) i),.c (.string (bs [32]))] (.c (.string (bs (zGI k l)))):=fun hh=>by
    have e:i=l.length:=by have:=zCo hh;omega
    rw [e];exact hj
   have hnm:i<l.length->((gD l i).f 0).s.size<=8388608:=fun hi=>h.name hi
   repeat' (first
|refine zB ?_
|refine zC ?_
|refine zI ?_
|apply aw_1
 conv=>whnf
 refine ⟨?_,trivial⟩
|apply s_1
 conv=>whnf;arg 1;arg 4;arg 3;whnf
 refine ⟨?_,?_⟩
|apply zd rfl
 . conv=>lhs;whnf
 . conv=>lhs;whnf
 . first | exact hj2 ‹_›
|apply zX rfl rfl rfl
 . conv=>lhs;whnf
 . conv=>lhs;whnf;arg 1;whnf
 . conv=>lhs;whnf;arg 1;whnf
 . exact ⟨by kernel_rfl,by kernel_rfl⟩
 . rfl
|refine zV (by conv=>lhs;whnf) ?_ ?_<;>intro hb
|refine zN ?_
|refine zJ rfl ?_
|refine zK ?_
|refine zD ?_
|refine ⟨_,by conv=>lhs;whnf;arg 2;whnf,?_⟩;conv=>rhs;whnf
|exact trivial)
   . have hi:=zAL hb
     have ha:=h.args i hi
     have hla:=ha.len
     have hpar:=h.par hi
     have hja:=zCR (zl (fun j=>argT k (gD ((gD l i).f 1).l j)) ((gD l i).f 1).l.length) [44,32] (by rw [zv];omega) (by rw [zAT];exact Nat.le_trans hpar (by omega))
     rw [zAT] at hja
     refine zf (Sub.own (t:=7) (e:=9) rfl rfl) ?_
     refine zi (fun j st => ∃ m,m+j=((gD l i).f 1).l.length/\Sub (cx EN Tryz.prog s w he) st (HaP k l i m)) ((gD l i).f 1).l.length ⟨0,by omega,?_⟩ ?_
     . exact Sub.live ⟨rfl,rfl,rfl,rfl,rfl,rfl,rfl,rfl,rfl,trivial⟩ ⟨rfl,rfl,trivial⟩
     . rintro j2 st2 ⟨m,hmj,hs3⟩
       refine zf hs3 ?_
       have htk2:=zv (fun j=>argT k (gD ((gD l i).f 1).l j)) m
       have hv:decide ((m:Int)<(((gD l i).f 1).l.length:Int))=true->AC EN Tryz.prog 122 [.agg (cellsV Tryz.prog 12 84 ((gD ((gD l i).f 1).l m).f 1))] (.c (.string (bs (valT k ((gD ((gD l i).f 1).l m).f 1))))):=fun hh =>
        zD2 k _ (ha.dp m (zAL hh)) ((ha.wide m).f 1) (ha.good m (zAL hh)) (ha.val (zAL hh))
       have hja2:decide ((m:Int)<(((gD l i).f 1).l.length:Int))=false->AC EN Tryz.prog 59 [.sl 9 (zl (fun j=>argT k (gD ((gD l i).f 1).l j)) m),.c (.string (bs [44,32]))] (.c (.string (bs (zDu k ((gD l i).f 1).l)))):=fun hh=>by
        have e:m=((gD l i).f 1).l.length:=by have:=zCo hh;omega
        rw [e];exact hja
       repeat' (first
|refine zB ?_
|refine zC ?_
|refine zI ?_
|refine zY ?_
|apply aw_1
 conv=>whnf
 refine ⟨?_,trivial⟩
|apply s_1
 conv=>whnf;arg 1;arg 4;arg 3;whnf
 refine ⟨?_,?_⟩
|apply zd rfl
 . conv=>lhs;whnf
 . conv=>lhs;whnf
 . first | exact hv ‹_› | exact hja2 ‹_›
|apply zX rfl rfl rfl
 . conv=>lhs;whnf
 . conv=>lhs;whnf;arg 1;whnf
 . conv=>lhs;whnf;arg 1;whnf
 . exact ⟨by kernel_rfl,by kernel_rfl⟩
 . rfl
|apply zCD rfl rfl
 . conv=>lhs;whnf
 . first | exact zw | (conv=>lhs;whnf;arg 1;whnf)
 . first | exact fun _=>rfl | (intro _;kernel_rfl)
 . conv=>lhs;whnf
 . conv=>lhs;whnf;arg 1;whnf
 . conv=>lhs;whnf
|apply zDb rfl rfl
 . conv=>lhs;whnf
 . first | exact zw | (conv=>lhs;whnf;arg 1;whnf)
 . conv=>lhs;whnf;arg 1;whnf
 . rfl
 . rfl
|apply zAD (by kernel_rfl) (by kernel_rfl)
|apply zAq
|apply zAp rfl
 . conv=>lhs;whnf
 . conv=>lhs;whnf;arg 2;whnf
|apply zA9 rfl
 . conv=>lhs;whnf
 . conv=>lhs;whnf
 . first | exact hv ‹_› | exact hja2 ‹_›
|apply y_app rfl rfl
 . conv=>lhs;whnf
 . first | exact zw | (conv=>lhs;whnf;arg 1;whnf)
 . first | exact fun _=>rfl | (intro _;kernel_rfl)
 . conv=>lhs;whnf
 . rfl
 . rfl
 . conv=>lhs;whnf;arg 1;whnf
 . conv=>lhs;whnf
|apply zEw rfl rfl
 . conv=>lhs;whnf
 . first | exact zw | (conv=>lhs;whnf;arg 1;whnf)
 . conv=>lhs;whnf;arg 1;whnf
 . rfl
 . rfl
|exact zj
|show zBr _ _=true;rfl
|refine zV (by conv=>lhs;whnf) ?_ ?_<;>intro hb
|refine zN ?_
|refine zJ rfl ?_
|refine zK ?_
|exact trivial)
       . have hm:=zAL hb
         refine zE (j':=j2-1) (by omega) ⟨m+1,by omega,Sub.live ⟨rfl,rfl,?_,rfl,rfl,rfl,rfl,rfl,rfl,trivial⟩ ⟨rfl,?_,trivial⟩⟩
         . show V.own 7 _ (zl _ m++[.str (((gD ((gD l i).f 1).l m).f 0).s++⟨#[58,32]⟩++bs _)])=_
           rw [zn,argT,<- zU,<- zU,zA8];rfl
         . show some (Res.tok _ ((zl _ m).length+1))=_
           rw [zn,List.length_append];rfl
       . exact za (by have:=zAL hb;omega)
       . exact zBq (by have:=zAL hb;omega) (by omega)
       . have h1:=ha.name (zAL hb)
         have h2:=ha.text (zAL hb)
         (simp only [ByteArray.size_append,zS,zh,List.size_toArray,List.length_append,List.length_cons,List.length_nil,maxLen,Nat.reduceAdd,Int.toNat_natCast];omega)
       . have h1:=ha.name (zAL hb)
         (simp only [ByteArray.size_append,zS,zh,List.size_toArray,List.length_append,List.length_cons,List.length_nil,maxLen,Nat.reduceAdd,Int.toNat_natCast];omega)
       . exact zDt hb
       . rename_i hb0
         have e:m=((gD l i).f 1).l.length:=by have:=zCo hb0;omega
         have hp:0<((gD l i).f 1).l.length:=by rw [htk2] at hb;have:=of_decide_eq_true hb;omega
         refine zE (j':=j-1) (by omega) ⟨i+1,by omega,Sub.live ⟨?_,rfl,rfl,rfl,trivial⟩ ⟨?_,trivial⟩⟩
         . show V.own 3 _ (zl _ i++[.str (⟨#[64]⟩++((gD l i).f 0).s++(⟨#[40]⟩++bs (zDu k ((gD l i).f 1).l)++⟨#[41]⟩))])=_
           rw [zn,dirT,zHI,if_pos hp,<- zU,<- zU,<- zU,<- zU,zA8];rfl
         . show some (Res.tok _ ((zl _ i).length+1))=_
           rw [zn,List.length_append];rfl
       . exact za (by omega)
       . exact zBq (by omega) (by omega)
       . have:=hnm hi
         (simp only [ByteArray.size_append,zS,zh,List.size_toArray,List.length_append,List.length_cons,List.length_nil,maxLen,Nat.reduceAdd,Int.toNat_natCast];omega)
       . (simp only [ByteArray.size_append,zS,zh,List.size_toArray,List.length_append,List.length_cons,List.length_nil,maxLen,Nat.reduceAdd,Int.toNat_natCast];omega)
       . (simp only [ByteArray.size_append,zS,zh,List.size_toArray,List.length_append,List.length_cons,List.length_nil,maxLen,Nat.reduceAdd,Int.toNat_natCast];omega)
       . rename_i hb0
         have e:m=((gD l i).f 1).l.length:=by have:=zCo hb0;omega
         have hp : ¬ 0<((gD l i).f 1).l.length:=by rw [htk2] at hb;have:=of_decide_eq_false hb;omega
         refine zE (j':=j-1) (by omega) ⟨i+1,by omega,Sub.live ⟨?_,rfl,rfl,rfl,trivial⟩ ⟨?_,trivial⟩⟩
         . show V.own 3 _ (zl _ i++[.str (⟨#[64]⟩++((gD l i).f 0).s)])=_
           rw [zn,dirT,zHI,if_neg hp,List.append_nil,<- zU,zA8];rfl
         . show some (Res.tok _ ((zl _ i).length+1))=_
           rw [zn,List.length_append];rfl
       . exact za (by omega)
       . exact zBq (by omega) (by omega)
   . have:=hnm (zAL hb)
     show 1+((gD l i).f 0).s.size<=_
     unfold maxLen;omega
   . exact zDt hb
noncomputable def HdR (k:Nat) (l:List D) (i:Nat):Vst 69:=
 stS 69 [(0,.sl 150 l),(3,.own 3 9 (zl (fun i=>dirT k (gD l i)) i)),(4,.c (.int .i64 i))] [(3,.tok 9 (zl (fun i=>dirT k (gD l i)) i).length)]
noncomputable def HaR (k:Nat) (l:List D) (i m:Nat):Vst 69:=
 stS 69 [(0,.sl 150 l),(3,.own 3 9 (zl (fun i=>dirT k (gD l i)) i)),(4,.c (.int .i64 i)),(5,.own 5 9 (zl (fun j=>argT k (gD ((gD l i).f 1).l j)) m)),(6,.c (.int .i64 m))]
  [(3,.tok 9 (zl (fun i=>dirT k (gD l i)) i).length),(5,.tok 9 (zl (fun j=>argT k (gD ((gD l i).f 1).l j)) m).length)]
theorem dirsR_ac (k:Nat) (l:List D) (h:DirsOk k l):AC EN Tryz.prog 199 [.sl 150 l] (.c (.string (bs (zGI k l)))):=by
 have hlen:=h.len
 have hds:=zDD k l h.wide
 have hbk:=h.bulk
 have hj:=zFJ (zl (fun i=>dirT k (gD l i)) l.length) [32] (by rw [zv];omega) (by rw [zAT];exact Nat.le_trans hds (by omega)) (by decide)
 rw [zAT] at hj
 refine zG 69 Tryz.func199 rfl rfl rfl rfl ?_
 intro s w he
 repeat' (first
|refine zB ?_
|refine zC ?_
|refine zI ?_
|apply aw_1
 conv=>whnf
 refine ⟨?_,trivial⟩
|apply s_1
 conv=>whnf;arg 1;arg 4;arg 3;whnf
 refine ⟨?_,?_⟩
|exact trivial)
 refine zf (Sub.own (t:=3) (e:=9) rfl rfl) ?_
 refine zi (fun j st => ∃ i,i+j=l.length/\Sub (cx EN Tryz.prog s w he) st (HdR k l i)) l.length ⟨0,by omega,?_⟩ ?_
 . exact Sub.live ⟨rfl,rfl,rfl,trivial⟩ ⟨rfl,trivial⟩
 . rintro j st ⟨i,hij,hs2⟩
   refine zf hs2 ?_
   have htk:=zv (fun i=>dirT k (gD l i)) i
   have hj2:decide ((i:Int)<(l.length:Int))=false->AC EN Tryz.prog 205 [.sl 9 (zl (fun i=>dirT k (gD l i)) i),.c (.string (bs [32]))] (.c (.string (bs (zGI k l)))):=fun hh=>by
    have e:i=l.length:=by have:=zCo hh;omega
    rw [e];exact hj
   have hnm:i<l.length->((gD l i).f 0).s.size<=8388608:=fun hi=>h.name hi
   repeat' (first
|refine zB ?_
|refine zC ?_
|refine zI ?_
|apply aw_1
 conv=>whnf
 refine ⟨?_,trivial⟩
|apply s_1
 conv=>whnf;arg 1;arg 4;arg 3;whnf
 refine ⟨?_,?_⟩
|apply zd rfl
 . conv=>lhs;whnf
 . conv=>lhs;whnf
 . first | exact hj2 ‹_›
|refine zV (by conv=>lhs;whnf) ?_ ?_<;>intro hb
|refine zN ?_
|refine zJ rfl ?_
|refine zK ?_
|refine zD ?_
|refine ⟨_,by conv=>lhs;whnf;arg 2;whnf,?_⟩;conv=>rhs;whnf
|exact trivial)
   . have hi:=zAL hb
     have ha:=h.args i hi
     have hla:=ha.len
     have hpar:=h.par hi
     have hja:=zFJ (zl (fun j=>argT k (gD ((gD l i).f 1).l j)) ((gD l i).f 1).l.length) [44,32] (by rw [zv];omega) (by rw [zAT];exact Nat.le_trans hpar (by omega)) (by decide)
     rw [zAT] at hja
     refine zf (Sub.own (t:=5) (e:=9) rfl rfl) ?_
     refine zi (fun j st => ∃ m,m+j=((gD l i).f 1).l.length/\Sub (cx EN Tryz.prog s w he) st (HaR k l i m)) ((gD l i).f 1).l.length ⟨0,by omega,?_⟩ ?_
     . exact Sub.live ⟨rfl,rfl,rfl,rfl,rfl,trivial⟩ ⟨rfl,rfl,trivial⟩
     . rintro j2 st2 ⟨m,hmj,hs3⟩
       refine zf hs3 ?_
       have htk2:=zv (fun j=>argT k (gD ((gD l i).f 1).l j)) m
       have hv:decide ((m:Int)<(((gD l i).f 1).l.length:Int))=true->AC EN Tryz.prog 125 [.agg (cellsV Tryz.prog 12 84 ((gD ((gD l i).f 1).l m).f 1))] (.c (.string (bs (valT k ((gD ((gD l i).f 1).l m).f 1))))):=fun hh =>
        zD1 k _ (ha.dp m (zAL hh)) ((ha.wide m).f 1) (ha.val (zAL hh))
       have hja2:decide ((m:Int)<(((gD l i).f 1).l.length:Int))=false->AC EN Tryz.prog 205 [.sl 9 (zl (fun j=>argT k (gD ((gD l i).f 1).l j)) m),.c (.string (bs [44,32]))] (.c (.string (bs (zDu k ((gD l i).f 1).l)))):=fun hh=>by
        have e:m=((gD l i).f 1).l.length:=by have:=zCo hh;omega
        rw [e];exact hja
       repeat' (first
|refine zB ?_
|refine zC ?_
|refine zI ?_
|refine zY ?_
|apply aw_1
 conv=>whnf
 refine ⟨?_,trivial⟩
|apply s_1
 conv=>whnf;arg 1;arg 4;arg 3;whnf
 refine ⟨?_,?_⟩
|apply zd rfl
 . conv=>lhs;whnf
 . conv=>lhs;whnf
 . first | exact hv ‹_› | exact hja2 ‹_›
|apply zCD rfl rfl
 . conv=>lhs;whnf
 . first | exact zw | (conv=>lhs;whnf;arg 1;whnf)
 . first | exact fun _=>rfl | (intro _;kernel_rfl)
 . conv=>lhs;whnf
 . conv=>lhs;whnf;arg 1;whnf
 . conv=>lhs;whnf
|apply zDb rfl rfl
 . conv=>lhs;whnf
 . first | exact zw | (conv=>lhs;whnf;arg 1;whnf)
 . conv=>lhs;whnf;arg 1;whnf
 . rfl
 . rfl
|apply zAD (by kernel_rfl) (by kernel_rfl)
|apply zAq
|apply zAp rfl
 . conv=>lhs;whnf
 . conv=>lhs;whnf;arg 2;whnf
|apply zA9 rfl
 . conv=>lhs;whnf
 . conv=>lhs;whnf
 . first | exact hv ‹_› | exact hja2 ‹_›
|apply y_app rfl rfl
 . conv=>lhs;whnf
 . first | exact zw | (conv=>lhs;whnf;arg 1;whnf)
 . first | exact fun _=>rfl | (intro _;kernel_rfl)
 . conv=>lhs;whnf
 . rfl
 . rfl
 . conv=>lhs;whnf;arg 1;whnf
 . conv=>lhs;whnf
|apply zEw rfl rfl
 . conv=>lhs;whnf
 . first | exact zw | (conv=>lhs;whnf;arg 1;whnf)
 . conv=>lhs;whnf;arg 1;whnf
 . rfl
 . rfl
|exact zj
|refine zV (by conv=>lhs;whnf) ?_ ?_<;>intro hb
|refine zN ?_
|refine zJ rfl ?_
|refine zK ?_
|exact trivial)
       . have hm:m<((gD l i).f 1).l.length:=zAL hb
         refine zE (j':=j2-1) (by omega) ⟨m+1,by omega,Sub.live ⟨rfl,rfl,rfl,?_,rfl,trivial⟩ ⟨rfl,?_,trivial⟩⟩
         . show V.own 5 _ (zl _ m++[.str (((gD ((gD l i).f 1).l m).f 0).s++⟨#[58,32]⟩++bs _)])=_
           rw [zn,argT,<- zU,<- zU,zA8];rfl
         . show some (Res.tok _ ((zl _ m).length+1))=_
           rw [zn,List.length_append];rfl
       . have hm:m<((gD l i).f 1).l.length:=zAL hb
         exact za (by omega)
       . have hm:m<((gD l i).f 1).l.length:=zAL hb
         exact zBq (by omega) (by omega)
       . have hm:m<((gD l i).f 1).l.length:=zAL hb
         have h1:=ha.name hm
         have h2:=ha.text hm
         show (((gD ((gD l i).f 1).l m).f 0).s++⟨#[58,32]⟩).size+(bs (valT k ((gD ((gD l i).f 1).l m).f 1))).size<=maxLen
         (simp only [ByteArray.size_append,zS,zh,List.size_toArray,List.length_append,List.length_cons,List.length_nil,maxLen,Nat.reduceAdd,Int.toNat_natCast];omega)
       . exact zDt hb
       . exact ⟨by omega,by omega⟩
       . have hm:m<((gD l i).f 1).l.length:=zAL hb
         have h1:=ha.name hm
         show ((gD ((gD l i).f 1).l m).f 0).s.size+(⟨#[58,32]⟩:ByteArray).size<=maxLen
         (simp only [ByteArray.size_append,zS,zh,List.size_toArray,List.length_append,List.length_cons,List.length_nil,maxLen,Nat.reduceAdd,Int.toNat_natCast];omega)
       . exact zDt hb
       . exact ⟨by omega,by omega⟩
       . rename_i hb0
         have e:m=((gD l i).f 1).l.length:=by have:((gD l i).f 1).l.length<=m:=zCo hb0
                                              omega
         have hp:0<((gD l i).f 1).l.length:=by rw [htk2] at hb;have:=of_decide_eq_true hb;omega
         refine zE (j':=j-1) (by omega) ⟨i+1,by omega,Sub.live ⟨rfl,?_,rfl,trivial⟩ ⟨?_,trivial⟩⟩
         . show V.own 3 _ (zl _ i++[.str (⟨#[64]⟩++((gD l i).f 0).s++⟨#[40]⟩++bs (zDu k ((gD l i).f 1).l)++⟨#[41]⟩)])=_
           rw [zn,dirT,zHI,if_pos hp,<- zU,<- zU,<- zU,<- zU,zA8,ByteArray.append_assoc,ByteArray.append_assoc,ByteArray.append_assoc,ByteArray.append_assoc,ByteArray.append_assoc];rfl
         . show some (Res.tok _ ((zl _ i).length+1))=_
           rw [zn,List.length_append];rfl
       . exact za (by omega)
       . exact zBq (by omega) (by omega)
       . have:=hnm hi
         show ((⟨#[64]⟩:ByteArray)++((gD l i).f 0).s++⟨#[40]⟩++bs (zDu k ((gD l i).f 1).l)).size+(⟨#[41]⟩:ByteArray).size<=maxLen
         (simp only [ByteArray.size_append,zS,zh,List.size_toArray,List.length_append,List.length_cons,List.length_nil,maxLen,Nat.reduceAdd,Int.toNat_natCast];omega)
       . have:=hnm hi
         show ((⟨#[64]⟩:ByteArray)++((gD l i).f 0).s++⟨#[40]⟩).size+(bs (zDu k ((gD l i).f 1).l)).size<=maxLen
         (simp only [ByteArray.size_append,zS,zh,List.size_toArray,List.length_append,List.length_cons,List.length_nil,maxLen,Nat.reduceAdd,Int.toNat_natCast];omega)
       . have:=hnm hi
         show ((⟨#[64]⟩:ByteArray)++((gD l i).f 0).s).size+(⟨#[40]⟩:ByteArray).size<=maxLen
         (simp only [ByteArray.size_append,zS,zh,List.size_toArray,List.length_append,List.length_cons,List.length_nil,maxLen,Nat.reduceAdd,Int.toNat_natCast];omega)
       . rename_i hb0
         have e:m=((gD l i).f 1).l.length:=by have:((gD l i).f 1).l.length<=m:=zCo hb0
                                              omega
         have hp : ¬ 0<((gD l i).f 1).l.length:=by rw [htk2] at hb;have:=of_decide_eq_false hb;omega
         refine zE (j':=j-1) (by omega) ⟨i+1,by omega,Sub.live ⟨rfl,?_,rfl,trivial⟩ ⟨?_,trivial⟩⟩
         . show V.own 3 _ (zl _ i++[.str (⟨#[64]⟩++((gD l i).f 0).s)])=_
           rw [zn,dirT,zHI,if_neg hp,List.append_nil,<- zU,zA8];rfl
         . show some (Res.tok _ ((zl _ i).length+1))=_
           rw [zn,List.length_append];rfl
       . exact za (by omega)
       . exact zBq (by omega) (by omega)
       . have:=hnm hi
         show 1+((gD l i).f 0).s.size<=maxLen
         unfold maxLen;omega
       . exact ⟨by omega,by omega⟩
       . exact ⟨by omega,by omega⟩
end
section
def largeB:Nat->List D->Bool
 |0,_=>true
 |k+1,l=>decide (60<l.length)||l.any fun p=>decide (0<(p.f 7).l.length)&&largeB k (p.f 7).l
def CpV:Nat->D->Prop
 |0,_=>False
 |k+1,d=>(d.f 3).l.length<=1759218604441/\(d.f 4).l.length<=8796093022207 /\ ∀ i,i<(d.f 3).l.length->CpV k (gD (d.f 3).l i)
def CpA (l:List D):Prop:=l.length<=1000000000000 /\ ∀ i,i<l.length -> ∃ k,CpV k ((gD l i).f 1)
def CpP:Nat->List D->Prop
 |0,l=>l=[]
 |k+1,l=>l.length<=60 /\ ∀ i,i<l.length->CpA ((gD l i).f 3).l/\CpP k ((gD l i).f 7).l
theorem largeB_get {k:Nat} {l:List D} (h:largeB (k+1) l=false):l.length<=60 /\ ∀ i,i<l.length->((gD l i).f 7).l=[]\/largeB k ((gD l i).f 7).l=false:=by
 unfold largeB at h
 rw [Bool.or_eq_false_iff] at h
 refine ⟨by have:=of_decide_eq_false h.1;omega,fun i hi => ?_⟩
 have:=List.any_eq_false.1 h.2 (gD l i) (by rw [zAQ hi];exact List.getElem_mem hi)
 rw [Bool.and_eq_true] at this
 by_cases he:0<((gD l i).f 7).l.length
 . right
   cases hb:largeB k ((gD l i).f 7).l with
   |false=>rfl
   |true=>exact (this ⟨decide_eq_true he,hb⟩).elim
 . left
   exact List.length_eq_zero_iff.1 (by omega)
theorem cpP_of : ∀ (k:Nat) (l:List D),(l=[]\/largeB k l=false)->bulkL l<=1000000000->CpP k l:=by
 have hv : ∀ (n:Nat) (d:D),bulkD d<=n->n<=1000000000->CpV n d:=by
  intro n
  induction n with
  |zero=>intro d h _;have:=zAj d;omega
  |succ n ih =>
   intro d h hn
   have h0:=zW d
   have h3:=wD_f d 3
   have h3':=zr (d.f 3)
   have h4:=wD_f d 4
   have h4':=zr (d.f 4)
   have l3:=zAK (d.f 3).l
   have l4:=zAK (d.f 4).l
   exact ⟨by omega,by omega,fun i hi=>ih _ (by have:=zu hi;omega) (by omega)⟩
 have ha : ∀ (l:List D),bulkL l<=1000000000->CpA l:=fun l h=>⟨by have:=zAK l;omega,fun i hi=>⟨_,hv _ _ (Nat.le_refl _) (by
  have h1:=zu hi
  have h2:=wD_f (gD l i) 1
  have h3:=zW (gD l i)
  have h4:=zW ((gD l i).f 1)
  omega)⟩⟩
 intro k
 induction k with
 |zero=>intro l h _;rcases h with h | h;exact h;cases h
 |succ k ih =>
  intro l h hb
  rcases h with rfl | h
  . exact ⟨by simp,fun i hi=>absurd hi (Nat.not_lt_zero i)⟩
  . obtain ⟨h1,h2⟩:=largeB_get h
    refine ⟨h1,fun i hi => ?_⟩
    have g:=zu hi
    have q3:=wD_f (gD l i) 3
    have q3':=zr ((gD l i).f 3)
    have q7:=wD_f (gD l i) 7
    have q7':=zr ((gD l i).f 7)
    have q:=zW (gD l i)
    exact ⟨ha _ (by omega),ih _ (h2 i hi) (by omega)⟩
def anyRef:D:=.obj [.str ⟨#[95,65,110,121]⟩,.list [.int 1,.int 2,.int 1]]
def nullV:D:=.obj [.int 0,.int 0,.str ⟨#[]⟩,.list [],.list []]
def zBn:D:=.obj [.str ⟨#[114]⟩,anyRef,.bool false,nullV]
def entS (sels:List D):D:=sD31 1 ⟨#[]⟩ ⟨#[95,101,110,116,105,116,105,101,115]⟩ ⟨#[]⟩ [sArg ⟨#[114,101,112,114,101,115,101,110,116,97,116,105,111,110,115]⟩ (vD31 7 0 ⟨#[114]⟩)] [] sels
def opSels (n:Nat) (kind:Int) (l:List D):List D:=if l=[] then [zD8] else pkS n (zDV kind) l
end
section
open Go.RowKit
attribute [local irreducible] wpList Calls Code.wp AW AWo OpOk seqK zAG zAP loopK endK endKB AC ACB zt absLexG Yld YldG Sub
def lfV (d:D):List V:=[.c (.int .i64 (d.f 0).n),.c (.int .i64 (d.f 1).n),.c (.string (d.f 2).s),.c (.slice none 0 0),.c (.slice none 0 0)]
theorem zKl (k n:Int) (u:ByteArray):VLe (.agg (lfV (vD31 k n u))) (.agg (cellsV Tryz.prog 12 84 (vD31 k n u))):=
 .agg (.cons (.refl _) (.cons (.refl _) (.cons (.refl _) (.cons (.nil _) (.cons (.nil _) .nil)))))
section
variable (E0:Ge)
theorem textR_raw (s:ByteArray):AC E0 Tryz.prog 172 [.c (.string s)] (.agg (lfV (vD31 3 0 s))):=by
 refine zG 5 Tryz.func172 rfl rfl rfl rfl ?_
 intro w0 w he
 repeat' (first
|refine zA0 ?_
|refine zB ?_
|refine zC ?_
|refine zI ?_
|apply zCf rfl
 . conv=>lhs;whnf
 . conv=>lhs;whnf;arg 2;whnf
|apply zBS rfl rfl rfl rfl
 . conv=>lhs;whnf;arg 1;whnf
 . rfl
|apply zX rfl rfl rfl
 . conv=>lhs;whnf
 . conv=>lhs;whnf;arg 1;whnf
 . conv=>lhs;whnf;arg 1;whnf
 . exact ⟨by kernel_rfl,by kernel_rfl⟩
 . rfl
|refine zCA ?_
|refine zD ?_
|refine ⟨_,by conv=>lhs;whnf;arg 2;whnf,?_⟩;conv=>rhs;whnf
|exact trivial)
 rfl
theorem zKD (s:ByteArray):AC E0 Tryz.prog 172 [.c (.string s)] (.agg (cellsV Tryz.prog 12 84 (vD31 3 0 s))):=(textR_raw E0 s).res (zKl _ _ _)
noncomputable def fdrV (sub:ByteArray->List D->List D) (p:D):V:=
 .agg [.c (.int .i64 1),.c (.string (if (p.f 0).s.toList==(p.f 2).s.toList then ⟨#[]⟩ else (p.f 0).s)),.c (.string (p.f 2).s),.c (.string ⟨#[]⟩),.sl 86 (p.f 3).l,
  if (p.f 6).n = -1 then .c (.slice none 0 0) else .sl 150 [zBP (p.f 6).n],if 0<(p.f 7).l.length then .sl 76 (sub ((p.f 4).f 0).s (p.f 7).l) else .c (.slice none 0 0)]
theorem zE4 (sub:ByteArray->List D->List D) (p:D) {b0 b1 b2:Bool} (h0:(!(p.f 0).s.toList==(p.f 2).s.toList)=b0) (h1:((p.f 6).n != -1)=b1) (h2:decide (((p.f 7).l.length:Int)>0)=b2) :
 fdrV sub p = .agg [.c (.int .i64 1),.c (.string (bif b0 then (p.f 0).s else ⟨#[]⟩)),.c (.string (p.f 2).s),.c (.string ⟨#[]⟩),.sl 86 (p.f 3).l,
  bif b1 then .sl 150 [zBP (p.f 6).n] else .c (.slice none 0 0),bif b2 then .sl 76 (sub ((p.f 4).f 0).s (p.f 7).l) else .c (.slice none 0 0)]:=by
 subst h0 h1 h2
 unfold fdrV
 cases hA:((p.f 0).s.toList==(p.f 2).s.toList)<;>by_cases hB:(p.f 6).n = -1<;>by_cases hC:0<(p.f 7).l.length<;>first
  |(simp [hB,hC,bne];done)
  |(have hB2:((p.f 6).n == -1)=false:=by simpa using hB
    simp [hB,hC,bne,hB2];done)
theorem fieldR_raw (sub:ByteArray->List D->List D) (p:D) (hn:(p.f 7).l.length<=1000000)
 (hs:0<(p.f 7).l.length->AC E0 Tryz.prog 92 [.c (.string ((p.f 4).f 0).s),.sl 73 (p.f 7).l] (.sl 76 (sub ((p.f 4).f 0).s (p.f 7).l))) :
 AC E0 Tryz.prog 171 [.agg (cellsV Tryz.prog 12 73 p)] (fdrV sub p):=by
 have ht:=zKD E0 ⟨#[115]⟩
 have hs2:=fun (h:decide (((p.f 7).l.length:Int)>0)=true)=>hs (by have:=of_decide_eq_true h;omega)
 refine zG 42 Tryz.func171 rfl rfl rfl (by unfold fdrV;by_cases h1:(p.f 6).n = -1<;>by_cases h2:0<(p.f 7).l.length<;>simp only [h1,h2,if_true,if_false]<;>rfl) ?_
 intro w0 w he
 repeat' (first
|apply zGf (.agg (cellsV Tryz.prog 12 86 (sArg ⟨#[105,110,105,116,105,97,108,67,111,117,110,116]⟩ (vD31 2 (p.f 6).n ⟨#[]⟩)))) rfl rfl
 . conv=>lhs;whnf;arg 2;whnf
 . repeat' (first | exact VLe.refl _ | exact VLe.nil _ | exact VLe.lit _ _ | exact VLe.own _ _ _ | apply VLe.agg | apply VLeL.cons | exact VLeL.nil)
|apply zGf (.agg (cellsV Tryz.prog 12 150 (zBP (p.f 6).n))) rfl rfl
 . conv=>lhs;whnf;arg 2;whnf
 . repeat' (first | exact VLe.refl _ | exact VLe.nil _ | exact VLe.lit _ _ | exact VLe.own _ _ _ | apply VLe.agg | apply VLeL.cons | exact VLeL.nil)
|apply zBk 11 ([(3,[1])]) ([(10,[3])]) rfl (by kernel_rfl) (by kernel_rfl) (by kernel_rfl)
|apply zDn
|apply zDm rfl
 . conv=>lhs;whnf
 . conv=>lhs;whnf;arg 2;whnf
|apply zE3 rfl
 . conv=>lhs;whnf
 . conv=>lhs;whnf
 . first | exact ht | exact hs2 ‹_›
|apply zB6 rfl rfl rfl
 . conv=>lhs;whnf
 . rfl
 . conv=>lhs;whnf;arg 1;whnf
 . conv=>lhs;whnf;arg 1;whnf
 . exact ⟨by kernel_rfl,by kernel_rfl⟩
 . rfl
|show inO _ _=true;rfl
|apply zDo [sArg ⟨#[108,97,98,101,108]⟩ (vD31 3 0 ⟨#[115]⟩),sArg ⟨#[105,110,105,116,105,97,108,67,111,117,110,116]⟩ (vD31 2 (p.f 6).n ⟨#[]⟩)] rfl rfl
 . conv=>lhs;whnf
 . first | (conv=>lhs;whnf;arg 1;whnf)
 . rfl
 . rfl
 . repeat' (first | exact trivial | apply And.intro | rfl)
|apply zDo [zBP (p.f 6).n] rfl rfl
 . conv=>lhs;whnf
 . first | (conv=>lhs;whnf;arg 1;whnf)
 . rfl
 . rfl
 . repeat' (first | exact trivial | apply And.intro | rfl)
|refine zA0 ?_
|refine zB ?_
|refine zC ?_
|refine zI ?_
|refine zCU ?_
|apply zCf rfl
 . conv=>lhs;whnf
 . conv=>lhs;whnf;arg 2;whnf
|apply zd rfl
 . conv=>lhs;whnf
 . conv=>lhs;whnf
 . first | exact ht | exact hs2 ‹_›
|apply zAE rfl rfl rfl rfl
 . conv=>lhs;whnf;arg 1;whnf
 . rfl
|apply zBS rfl rfl rfl rfl
 . conv=>lhs;whnf;arg 1;whnf
 . rfl
|apply zX rfl rfl rfl
 . conv=>lhs;whnf
 . conv=>lhs;whnf;arg 1;whnf
 . conv=>lhs;whnf;arg 1;whnf
 . exact ⟨by kernel_rfl,by kernel_rfl⟩
 . rfl
|refine zV (by conv=>lhs;whnf) ?_ ?_<;>intro hb
|refine zCA ?_
|refine zD ?_
|refine ⟨_,by conv=>lhs;whnf;arg 2;whnf,?_⟩;conv=>rhs;whnf
|exact trivial)
 all_goals first
  |(rw [zE4 (b0:=true) (b1:=true) (b2:=true) sub p ‹_› ‹_› ‹_›];rfl)
  |(rw [zE4 (b0:=true) (b1:=true) (b2:=false) sub p ‹_› ‹_› ‹_›];rfl)
  |(rw [zE4 (b0:=true) (b1:=false) (b2:=true) sub p ‹_› ‹_› ‹_›];rfl)
  |(rw [zE4 (b0:=true) (b1:=false) (b2:=false) sub p ‹_› ‹_› ‹_›];rfl)
  |(rw [zE4 (b0:=false) (b1:=true) (b2:=true) sub p ‹_› ‹_› ‹_›];rfl)
  |(rw [zE4 (b0:=false) (b1:=true) (b2:=false) sub p ‹_› ‹_› ‹_›];rfl)
  |(rw [zE4 (b0:=false) (b1:=false) (b2:=true) sub p ‹_› ‹_› ‹_›];rfl)
  |(rw [zE4 (b0:=false) (b1:=false) (b2:=false) sub p ‹_› ‹_› ‹_›];rfl)
end
end
section
def sepB (c:UInt8):Bool:=c==32||c==9||c==10||c==13||c==44
def skipM:Bool->List UInt8->Nat
 |_,[]=>0
 |false,c::r=>if sepB c then skipM false r+1 else if c==35 then skipM true r+1 else 0
 |true,c::r=>if c==10||c==13 then skipM false r+1 else skipM true r+1
def letU (c:UInt8):Bool:=decide (97<=c.toNat/\c.toNat<=122)||decide (65<=c.toNat/\c.toNat<=90)||c==95
def wrdU (c:UInt8):Bool:=letU c||digU c
def zAr (c:UInt8):Bool:=[33,36,38,40,41,58,61,64,91,93,123,124,125].contains c
def spanN (p:UInt8->Bool):List UInt8->Nat
 |[]=>0
 |c::r=>if p c then spanN p r+1 else 0
def litN:List UInt8->Option Nat
 |[]=>none
 |[c]=>if c==34 then some 1 else none
 |c::d::r=>if c==34 then some 1 else if c==92 then (litN r).map (· + 2) else (litN (d::r)).map (· + 1)
structure Tok where
 k:Int
 s:List UInt8
 i:Nat
deriving DecidableEq
def nerU:Lib.NumEnd Int->Int
 |.ok _=>0
 |Lib.NumEnd.syntax=>3
 |.range=>4
def readU (l:List UInt8):Except Int (Int × List UInt8 × Nat):=
 match l with
 |[] => .error 3
 |c::r =>
  if zAr c then .ok (1,[c],1)
  else if c==46 then (if r.take 2=[46,46] then .ok (1,[46,46,46],3) else .error 3)
  else if c==45||digU c then
   (if nerU (numU (c::r.take (spanN wrdU r)))=0 then .ok (3,c::r.take (spanN wrdU r),spanN wrdU r+1) else .error (nerU (numU (c::r.take (spanN wrdU r)))))
  else if letU c then
   (if spanN wrdU r+1>64 then .error 3 else .ok (2,c::r.take (spanN wrdU r),spanN wrdU r+1))
  else if c==34 then
   (match litN r with
   |none => .error 3
   |some n=>match unquoteU (c::r.take n) with
    |none => .error 3
    |some t => .ok (4,t,n+1))
  else .error 3
def zFo (l:List UInt8) (i:Nat):Except Int (Tok × Nat):=
 match readU l with
 |.error e => .error e
 |.ok (k,s,n) => .ok (⟨k,s,i⟩,n)
def scanF:Nat->List UInt8->Nat->Except (Nat × Int) (List Tok)
 |0,_,i => .error (i,0)
 |f+1,l,i =>
  match l.drop (skipM false l) with
  |[] => .ok [⟨5,[],i+l.length⟩]
  |c::r=>match zFo (c::r) (i+skipM false l) with
   |.error e => .error (i+skipM false l,e)
   |.ok (t,n)=>match scanF f ((c::r).drop n) (i+skipM false l+n) with
    |.error e => .error e
    |.ok ts => .ok (t::ts)
def zEA (l:List UInt8):Except (Nat × Int) (List Tok):=if l.length>65536 then .error (65536,4) else scanF (l.length+1) l 0
theorem zBu : ∀ (b:Bool) (l:List UInt8),skipM b l<=l.length
 |b,[]=>by cases b<;>simp [skipM]
 |false,c::r=>by
  have h1:=zBu false r
  have h2:=zBu true r
  unfold skipM
  split
  . simp;omega
  . split
    . simp;omega
    . simp
 |true,c::r=>by
  have h1:=zBu false r
  have h2:=zBu true r
  unfold skipM
  split<;>simp<;>omega
theorem zCd (p:UInt8->Bool) : ∀ l,spanN p l<=l.length
 |[]=>Nat.le_refl _
 |c::r=>by
  have:=zCd p r
  unfold spanN
  split<;>simp<;>omega
theorem zHN : ∀ (l:List UInt8) (n:Nat),litN l=some n->1<=n/\n<=l.length
 |[],n,h=>by simp [litN] at h
 |[c],n,h=>by
  unfold litN at h
  split at h
  . cases h;simp
  . cases h
 |c::d::r,n,h=>by
  unfold litN at h
  split at h
  . cases h;simp
  . split at h
    . obtain ⟨m,hm,rfl⟩:=Option.map_eq_some_iff.1 h
      have:=zHN r m hm
      simp;omega
    . obtain ⟨m,hm,rfl⟩:=Option.map_eq_some_iff.1 h
      have:=zHN (d::r) m hm
      simp at this |-;omega
theorem zHG {l:List UInt8} {k:Int} {t:List UInt8} {n:Nat} (h:readU l = .ok (k,t,n)):1<=n/\n<=l.length/\1<=k/\k<=4:=by
 unfold readU at h
 split at h
 . cases h
 . rename_i c r
   have hs:=zCd wrdU r
   split at h
   . cases h;simp
   split at h
   . split at h
     . rename_i h3
       cases h
       have:(r.take 2).length=2:=by rw [h3];rfl
       rw [List.length_take] at this
       simp;omega
     . cases h
   split at h
   . split at h
     . cases h;simp;omega
     . cases h
   split at h
   . split at h
     . cases h
     . cases h;simp;omega
   split at h
   . split at h
     . cases h
     . rename_i n' hn
       have:=zHN r n' hn
       split at h
       . cases h
       . cases h;simp;omega
   . cases h
theorem zKW {l:List UInt8} {i:Nat} {t:Tok} {n:Nat} (h:zFo l i = .ok (t,n)):readU l = .ok (t.k,t.s,n)/\t.i=i:=by
 unfold zFo at h
 split at h
 . cases h
 . rename_i k s m hm
   cases h
   exact ⟨hm,rfl⟩
theorem zKX {l:List UInt8} {i:Nat} {t:Tok} {n:Nat} (h:zFo l i = .ok (t,n)):1<=n/\n<=l.length:=by
 have:=zHG (zKW h).1
 omega
structure PS where
 ts:List Tok
 vr:Bool
 nd:Nat
abbrev PR (α:Type):=Except (Nat × Int) (α × PS)
def hdT (x:PS):Tok:=x.ts.headD ⟨5,[],0⟩
def isS (x:PS) (s:List UInt8):Bool:=(hdT x).k==1&&(hdT x).s==s
def nxT (x:PS):PS:=if (hdT x).k=5 then x else { x with ts:=x.ts.drop 1 }
def takeQ (s:List UInt8) (x:PS):PR Unit:=if isS x s=true then .ok ((),nxT x) else .error ((hdT x).i,3)
def nameQ (x:PS):PR (List UInt8):=if (hdT x).k=2 then .ok ((hdT x).s,nxT x) else .error ((hdT x).i,3)
def limQ (n most:Nat) (x:PS):PR Unit:=if most<=n then .error ((hdT x).i,4) else .ok ((),x)
theorem zAm {n most:Nat} {x y:PS} {u:Unit} (h:limQ n most x = .ok (u,y)):n<most/\y=x:=by
 unfold limQ at h
 split at h
 . cases h
 . cases h;exact ⟨by omega,rfl⟩
def thenQ {α β:Type} (r:PR α) (f:α->PS->PR β):PR β:=
 match r with
 |.error e => .error e
 |.ok (a,x)=>f a x
def strD (s:List UInt8):D:=.str ⟨s.toArray⟩
def valD (k n:Int) (s:List UInt8) (items:List D) (keys:List (List UInt8)):D:=.obj [.int k,.int n,strD s,.list items,.list (keys.map strD)]
def refD (n:List UInt8) (w:List Int):D:=.obj [strD n,.list (w.map .int)]
def argD (n:List UInt8) (v:D):D:=.obj [strD n,v]
def dirD (n:List UInt8) (aa:List D):D:=.obj [strD n,.list aa]
def selD (k:Int) (al n on:List UInt8) (aa ds ss:List D):D:=.obj [.int k,strD al,strD n,strD on,.list aa,.list ds,.list ss]
def varD (n:List UInt8) (t:D) (h:Bool) (v:D):D:=.obj [strD n,t,.bool h,v]
def opD (k:Int) (n:List UInt8) (vs ss:List D):D:=.obj [.int k,strD n,.list vs,.list ss]
def zJh (n on:List UInt8) (ss:List D):D:=.obj [strD n,strD on,.list ss]
def queD (ops frags:List D):D:=.obj [.list ops,.list frags]
def zGF:D:=valD 0 0 [] [] []
def openQ:Nat->PS->Nat × PS
 |0,x=>(0,x)
 |f+1,x=>if isS x [91]=true then ((openQ f (nxT x)).1+1,(openQ f (nxT x)).2) else (0,x)
def closeQ:Nat->List Int->PS->PR (List Int)
 |0,w,x => .ok (if isS x [33]=true then (1::w,nxT x) else (w,x))
 |n+1,w,x=>thenQ (takeQ [93] (if isS x [33]=true then nxT x else x)) fun _ y=>closeQ n (2::(if isS x [33]=true then 1::w else w)) y
def innerQ (x:PS):PR (List UInt8 × List Int):=
 thenQ (nameQ (openQ x.ts.length x).2) fun n y=>thenQ (closeQ (openQ x.ts.length x).1 [] y) fun w z => .ok ((n,w),z)
def typQ (x:PS):PR D:=thenQ (innerQ x) fun t y=>if t.2.length>24 then .error ((hdT x).i,5) else .ok (refD t.1 t.2,y)
def numQ (l:List UInt8):Int:=match numU l with | .ok n=>n | _=>0
def zEY (s:List UInt8):D:=
 if s=[116,114,117,101] then valD 1 1 [] [] [] else if s=[102,97,108,115,101] then valD 1 0 [] [] [] else if s=[110,117,108,108] then zGF else valD 4 0 s [] []
def zCt (x:PS):Bool:=(hdT x).k==5||((hdT x).k==1 && !isS x [91] && !isS x [123] && !(x.vr&&isS x [36]))
def itemsQ (val:PS->PR D):Nat->List D->PS->PR (List D)
 |0,_,x => .error ((hdT x).i,0)
 |f+1,acc,x=>if isS x [93]=true then .ok (acc,nxT x) else thenQ (val x) fun v y=>itemsQ val f (acc++[v]) y
def zAJ (val:PS->PR D):Nat->List (List UInt8)->List D->PS->PR (List (List UInt8) × List D)
 |0,_,_,x => .error ((hdT x).i,0)
 |f+1,ks,acc,x =>
  if isS x [125]=true then .ok ((ks,acc),nxT x)
  else thenQ (nameQ x) fun k y=>if ks.contains k=true then .error ((hdT x).i,7) else
   thenQ (takeQ [58] y) fun _ z=>thenQ (val z) fun v u=>zAJ val f (ks++[k]) (acc++[v]) u
def valueQ:Nat->Nat->PS->PR D
 |0,_,x => .error ((hdT x).i,0)
 |f+1,lv,x =>
  if zCt x=true then .error ((hdT x).i,3)
  else if 24<lv then .error ((hdT x).i,5)
  else if 4096<=x.nd then .error ((hdT x).i,4)
  else
   let y:PS:={ nxT x with nd:=x.nd+1 }
   if (hdT x).k=3 then .ok (valD 2 (numQ (hdT x).s) [] [] [],y)
   else if (hdT x).k=4 then .ok (valD 3 0 (hdT x).s [] [],y)
   else if (hdT x).k=2 then .ok (zEY (hdT x).s,y)
   else if (hdT x).s=[36] then thenQ (nameQ y) fun n z => .ok (valD 7 0 n [] [],z)
   else if (hdT x).s=[91] then thenQ (itemsQ (valueQ f (lv+1)) (y.ts.length+1) [] y) fun l z => .ok (valD 5 0 [] l [],z)
   else thenQ (zAJ (valueQ f (lv+1)) (y.ts.length+1) [] [] y) fun l z => .ok (valD 6 0 [] l.2 l.1,z)
def zA4 (x:PS):PR D:=valueQ 25 1 { x with nd:=0 }
def argsF:Nat->List D->PS->PR (List D)
 |0,_,x => .error ((hdT x).i,0)
 |f+1,acc,x =>
  if acc.length≠0/\isS x [41]=true then .ok (acc,nxT x)
  else if (hdT x).k=2/\16<=acc.length then .error ((hdT x).i,4)
  else thenQ (nameQ x) fun n y=>thenQ (takeQ [58] y) fun _ z=>thenQ (zA4 z) fun v u=>argsF f (acc++[argD n v]) u
def argsQ (x:PS):PR (List D):=if isS x [40]=true then argsF x.ts.length [] (nxT x) else .ok ([],x)
def dirsF:Nat->List D->PS->PR (List D)
 |0,_,x => .error ((hdT x).i,0)
 |f+1,acc,x =>
  if isS x [64]=true then
   (if 16<=acc.length then .error ((hdT x).i,4) else thenQ (nameQ (nxT x)) fun n y=>thenQ (argsQ y) fun aa z=>dirsF f (acc++[dirD n aa]) z)
  else .ok (acc,x)
def dirsQ (x:PS):PR (List D):=dirsF (x.ts.length+1) [] x
def onT:List UInt8:=[111,110]
def selQ (sels:PS->PR (List D)) (x:PS):PR D:=
 if isS x [46,46,46]=true then
  let y:=nxT x
  if (hdT y).k=2/\(hdT y).s≠onT then thenQ (dirsQ (nxT y)) fun ds z => .ok (selD 2 [] (hdT y).s [] [] ds [],z)
  else
   thenQ (if (hdT y).k=2 then nameQ (nxT y) else .ok ([],y)) fun on z =>
    thenQ (dirsQ z) fun ds u=>thenQ (sels u) fun ss v => .ok (selD 3 [] [] on [] ds ss,v)
 else
  thenQ (nameQ x) fun n y =>
   thenQ (if isS y [58]=true then thenQ (nameQ (nxT y)) fun m z => .ok ((n,m),z) else .ok (([],n),y)) fun an z =>
    thenQ (argsQ z) fun aa u=>thenQ (dirsQ u) fun ds v =>
     thenQ (if isS v [123]=true then sels v else .ok ([],v)) fun ss o => .ok (selD 1 an.1 an.2 [] aa ds ss,o)
def setF (sel:PS->PR D):Nat->List D->PS->PR (List D)
 |0,_,x => .error ((hdT x).i,0)
 |f+1,acc,x =>
  if acc.length≠0/\isS x [125]=true then .ok (acc,nxT x)
  else if ((hdT x).k=2\/isS x [46,46,46]=true)/\64<=acc.length then .error ((hdT x).i,4)
  else thenQ (sel x) fun s y=>setF sel f (acc++[s]) y
def selsQ:Nat->Nat->PS->PR (List D)
 |0,_,x => .error ((hdT x).i,0)
 |f+1,lv,x =>
  if isS x [123]=true/\24<lv then .error ((hdT x).i,5)
  else thenQ (takeQ [123] x) fun _ y=>setF (selQ (selsQ f (lv+1))) (y.ts.length+1) [] y
def setQ (x:PS):PR (List D):=selsQ 25 1 x
def varsF:Nat->List D->PS->PR (List D)
 |0,_,x => .error ((hdT x).i,0)
 |f+1,acc,x =>
  if acc.length≠0/\isS x [41]=true then .ok (acc,nxT x)
  else if isS x [36]=true/\16<=acc.length then .error ((hdT x).i,4)
  else thenQ (takeQ [36] x) fun _ y=>thenQ (nameQ y) fun n z=>thenQ (takeQ [58] z) fun _ u=>thenQ (typQ u) fun t v =>
   thenQ (if isS v [61]=true then thenQ (zA4 { nxT v with vr:=false }) fun d o => .ok ((true,d),{ o with vr:=true }) else .ok ((false,zGF),v)) fun d o =>
    varsF f (acc++[varD n t d.1 d.2]) o
def opQ (k:Int) (x:PS):PR D:=
 thenQ (if (hdT x).k=2 then .ok ((hdT x).s,nxT x) else .ok ([],x)) fun n y =>
  thenQ (if isS y [40]=true then varsF y.ts.length [] (nxT y) else .ok ([],y)) fun vs z =>
   thenQ (setQ z) fun ss u => .ok (opD k n vs ss,u)
def fragQ (x:PS):PR D:=
 if (hdT x).s=onT then .error ((hdT x).i,3)
 else thenQ (nameQ x) fun n y=>if (hdT y).k=2/\(hdT y).s=onT then
  thenQ (nameQ (nxT y)) fun on z=>thenQ (setQ z) fun ss u => .ok (zJh n on ss,u)
  else .error ((hdT y).i,3)
def zID:List UInt8:=[113,117,101,114,121]
def mutT:List UInt8:=[109,117,116,97,116,105,111,110]
def subT:List UInt8:=[115,117,98,115,99,114,105,112,116,105,111,110]
def zIW:List UInt8:=[102,114,97,103,109,101,110,116]
def zBw (s:List UInt8):Int:=if s=zID then 1 else if s=mutT then 2 else if s=subT then 3 else 0
def docF:Nat->Nat->List D->List D->PS->PR (List D × List D)
 |0,_,_,_,x => .error ((hdT x).i,0)
 |f+1,n,ops,frs,x =>
  if n≠0/\(hdT x).k=5 then .ok ((ops,frs),x)
  else
   let w:=(hdT x).k=2/\(0<zBw (hdT x).s\/(hdT x).s=zIW)
   if ¬ w /\ ¬ isS x [123]=true then .error ((hdT x).i,3)
   else if 64<=n then .error ((hdT x).i,4)
   else if ¬ w then thenQ (setQ x) fun ss y=>docF f (n+1) (ops++[opD 1 [] [] ss]) frs y
   else if 0<zBw (hdT x).s then thenQ (opQ (zBw (hdT x).s) (nxT x)) fun o y=>docF f (n+1) (ops++[o]) frs y
   else thenQ (fragQ (nxT x)) fun o y=>docF f (n+1) ops (frs++[o]) y
def docQ (ts:List Tok):PR (List D × List D):=docF (ts.length+1) 0 [] [] ⟨ts,true,0⟩
def zIH (l:List UInt8):Except (Nat × Int) D:=
 match zEA l with
 |.error e => .error e
 |.ok ts=>match docQ ts with
  |.error e => .error e
  |.ok (q,_) => .ok (queD q.1 q.2)
inductive Lex:List UInt8->List (Int × List UInt8)->Prop where
 |done {l:List UInt8} (h:l.drop (skipM false l)=[]):Lex l []
 |tok {l:List UInt8} {c:UInt8} {r:List UInt8} {k:Int} {s:List UInt8} {n:Nat} {ks:List (Int × List UInt8)} (h:l.drop (skipM false l)=c::r) (ht:readU (c::r) = .ok (k,s,n)) (hr:Lex ((c::r).drop n) ks):Lex l ((k,s)::ks)
def bare (t:Tok):Int × List UInt8:=(t.k,t.s)
def endK5:Int × List UInt8:=(5,[])
theorem readT_any {l:List UInt8} {k:Int} {s:List UInt8} {n:Nat} (h:readU l = .ok (k,s,n)) (j:Nat):zFo l j = .ok (⟨k,s,j⟩,n):=by
 unfold zFo
 rw [h]
theorem Lex.scan {l:List UInt8} {ks:List (Int × List UInt8)} (h:Lex l ks) : ∀ (f i:Nat),l.length<f -> ∃ ts,scanF f l i = .ok ts/\ts.map bare=ks++[endK5]:=by
 induction h with
 |done h =>
  intro f i hf
  cases f with
  |zero=>omega
  |succ f =>
   exact ⟨[⟨5,[],i+_⟩],by unfold scanF;rw [h],rfl⟩
 |tok h ht hr ih =>
  rename_i l c r k s n ks
  intro f i hf
  cases f with
  |zero=>omega
  |succ f =>
   have hn:=zHG ht
   have hlen:(c::r).length<=l.length:=by rw [<- h,List.length_drop];omega
   obtain ⟨ts,h1,h2⟩:=ih f (i+skipM false l+n) (by rw [List.length_drop];omega)
   refine ⟨⟨k,s,i+skipM false l⟩::ts,?_,?_⟩
   . unfold scanF
     rw [h]
     dsimp only
     rw [readT_any ht]
     dsimp only
     rw [h1]
   . rw [List.map_cons,h2];rfl
def bnd (l:List UInt8):Prop:=∀ c,l.head? = some c->wrdU c=false
theorem zJy:bnd []:=fun _ h=>by cases h
theorem zAu {c:UInt8} {r:List UInt8} (h:wrdU c=false):bnd (c::r):=fun _ e=>by cases e;exact h
def Ps (t:List UInt8) (ks:List (Int × List UInt8)):Prop:=∀ r kr,Lex r kr->Lex (t++r) (ks++kr)
def Pw (t:List UInt8) (ks:List (Int × List UInt8)):Prop:=∀ r kr,bnd r->Lex r kr->Lex (t++r) (ks++kr)
theorem Ps.w {t:List UInt8} {ks:List (Int × List UInt8)} (h:Ps t ks):Pw t ks:=fun r kr _ hr=>h r kr hr
theorem Ps.nil:Ps [] []:=fun _ _ h=>h
theorem Ps.app {a b:List UInt8} {ka kb:List (Int × List UInt8)} (h:Ps a ka) (k:Ps b kb):Ps (a++b) (ka++kb):=fun r kr hr=>by
 rw [List.append_assoc,List.append_assoc];exact h _ _ (k r kr hr)
theorem Ps.appw {a b:List UInt8} {ka kb:List (Int × List UInt8)} (h:Ps a ka) (k:Pw b kb):Pw (a++b) (ka++kb):=fun r kr hb hr=>by
 rw [List.append_assoc,List.append_assoc];exact h _ _ (k r kr hb hr)
theorem Pw.app {a b:List UInt8} {ka kb:List (Int × List UInt8)} (h:Pw a ka) (k:Ps b kb) (hb:b≠[]/\bnd b):Ps (a++b) (ka++kb):=fun r kr hr=>by
 rw [List.append_assoc,List.append_assoc]
 refine h _ _ (fun c hc=>hb.2 c ?_) (k r kr hr)
 cases b with
 |nil=>exact (hb.1 rfl).elim
 |cons x y=>exact hc
theorem Pw.appw {a b:List UInt8} {ka kb:List (Int × List UInt8)} (h:Pw a ka) (k:Pw b kb) (hb:bnd b):Pw (a++b) (ka++kb):=fun r kr hr hl=>by
 rw [List.append_assoc,List.append_assoc]
 refine h _ _ (fun c hc => ?_) (k r kr hr hl)
 cases b with
 |nil=>exact hr c hc
 |cons x y=>exact hb c hc
theorem Lex.sep {c:UInt8} {r:List UInt8} {kr:List (Int × List UInt8)} (hc:sepB c=true) (h:Lex r kr):Lex (c::r) kr:=by
 have e:(c::r).drop (skipM false (c::r))=r.drop (skipM false r):=by
  rw [skipM,if_pos hc,List.drop_succ_cons]
 cases h with
 |done h=>exact .done (by rw [e];exact h)
 |tok h ht hr=>exact .tok (by rw [e];exact h) ht hr
theorem Ps.sep {c:UInt8} (hc:sepB c=true):Ps [c] []:=fun _ _ h=>h.sep hc
theorem zGP (c:UInt8):zAr c=true->sepB c=false/\(c==35)=false/\wrdU c=false:=
 zE6 (p:=fun c=>zAr c=true->sepB c=false/\(c==35)=false/\wrdU c=false) (by decide +kernel) c
theorem zFb {c:UInt8} {r:List UInt8} (h:sepB c=false) (h2:(c==35)=false):skipM false (c::r)=0:=by
 rw [skipM,if_neg (by rw [h];decide),if_neg (by rw [h2];decide)]
theorem Ps.sign {c:UInt8} (hc:zAr c=true):Ps [c] [(1,[c])]:=fun r kr h=>by
 obtain ⟨h1,h2,-⟩:=zGP c hc
 refine .tok (l:=c::r) (c:=c) (r:=r) (n:=1) (by rw [zFb h1 h2];rfl) ?_ h
 unfold readU
 simp only [hc,if_true]
theorem Ps.dots:Ps [46,46,46] [(1,[46,46,46])]:=fun r kr h=>by
 refine .tok (l:=46::46::46::r) (c:=46) (r:=46::46::r) (n:=3) rfl ?_ h
 unfold readU
 simp only [show zAr 46=false from rfl,Bool.false_eq_true,if_false,show ((46:UInt8)==46)=true from rfl,if_true,List.take_succ_cons,List.take_zero]
def nameU (l:List UInt8):Bool:=match l with | []=>false | c::r=>letU c&&r.all wrdU&&decide (r.length<64)
theorem let_plain (c:UInt8):letU c=true->sepB c=false/\(c==35)=false/\zAr c=false/\(c==46)=false/\(c==45||digU c)=false/\wrdU c=true:=
 zE6 (p:=fun c=>letU c=true->sepB c=false/\(c==35)=false/\zAr c=false/\(c==46)=false/\(c==45||digU c)=false/\wrdU c=true) (by decide +kernel) c
theorem zHB {p:UInt8->Bool} : ∀ (l r:List UInt8),l.all p=true->(∀ c,r.head? = some c->p c=false)->spanN p (l++r)=l.length
 |[],[],_,_=>rfl
 |[],c::r,_,h=>by
  show spanN p (c::r)=0
  rw [spanN,if_neg (by rw [h c rfl];decide)]
 |c::l,r,ha,h=>by
  rw [List.all_cons,Bool.and_eq_true] at ha
  rw [List.cons_append,spanN,if_pos ha.1,zHB l r ha.2 h,List.length_cons]
theorem Pw.name {l:List UInt8} (h:nameU l=true):Pw l [(2,l)]:=fun r kr hb hr=>by
 cases l with
 |nil=>cases h
 |cons c q =>
  simp only [nameU,Bool.and_eq_true,decide_eq_true_eq] at h
  obtain ⟨⟨h1,h2⟩,h3⟩:=h
  obtain ⟨p1,p2,p3,p4,p5,p6⟩:=let_plain c h1
  have hs:=zHB q r h2 hb
  refine .tok (l:=c::(q++r)) (c:=c) (r:=q++r) (n:=q.length+1) (by rw [zFb p1 p2];rfl) ?_ (by rw [List.drop_succ_cons,List.drop_left];exact hr)
  unfold readU
  simp only [p3,p4,p5,h1,hs,Bool.false_eq_true,if_false,if_true,List.take_left]
  rw [if_neg (by omega)]
theorem zLH : ∀ {l:List UInt8},l.all digU=true->l.all wrdU=true:=fun {l} h=>by
 rw [List.all_eq_true] at h |-
 intro x hx
 unfold wrdU
 rw [h x hx,Bool.or_true]
theorem num_plain (c:UInt8):(c==45||digU c)=true->sepB c=false/\(c==35)=false/\zAr c=false/\(c==46)=false:=
 zE6 (p:=fun c=>(c==45||digU c)=true->sepB c=false/\(c==35)=false/\zAr c=false/\(c==46)=false) (by decide +kernel) c
theorem Pw.num {l:List UInt8} {n:Int} (h:numU l = .ok n) (h1 : ∃ c q,l=c::q/\(c==45||digU c)=true/\q.all wrdU=true):Pw l [(3,l)]:=fun r kr hb hr=>by
 obtain ⟨c,q,rfl,h2,h3⟩:=h1
 obtain ⟨p1,p2,p3,p4⟩:=num_plain c h2
 have hs:=zHB q r h3 hb
 refine .tok (l:=c::(q++r)) (c:=c) (r:=q++r) (n:=q.length+1) (by rw [zFb p1 p2];rfl) ?_ (by rw [List.drop_succ_cons,List.drop_left];exact hr)
 unfold readU
 simp only [p3,p4,h2,hs,Bool.false_eq_true,if_false,if_true,List.take_left,h,nerU]
theorem itoa_shape (n:Int) : ∃ c q,Lib.itoa n=c::q/\(c==45||digU c)=true/\q.all wrdU=true:=by
 unfold Lib.itoa
 split
 . exact ⟨45,_,rfl,rfl,zLH (zF6 _)⟩
 . have h:=zF6 n.toNat
   cases hd:Lib.decDigits n.toNat with
   |nil=>exact (zLJ _ hd).elim
   |cons c q =>
    rw [hd,List.all_cons,Bool.and_eq_true] at h
    exact ⟨c,q,rfl,by rw [h.1,Bool.or_true],zLH h.2⟩
theorem Pw.int (n:Int) (h0 : -9223372036854775808<=n) (h1:n<=9223372036854775807):Pw (Lib.itoa n) [(3,Lib.itoa n)]:=Pw.num (zKe n h0 h1) (itoa_shape n)
theorem lit_esc (c:UInt8) (r:List UInt8):litN (escU c++r)=(litN r).map (· + (escU c).length):=
 zE6 (p:=fun c => ∀ r,litN (escU c++r)=(litN r).map (· + (escU c).length)) (fun i=>by
  revert i
  have key : ∀ (c:UInt8) (r:List UInt8),(c==34)=false->(c==92)=false->litN (c::r)=(litN r).map (· + 1):=fun c r h h2=>by
   cases r with
   |nil=>unfold litN;simp only [h,Bool.false_eq_true,if_false];rfl
   |cons d r=>rw [litN];simp only [h,h2,Bool.false_eq_true,if_false]
  have key2 : ∀ (c:UInt8) (r:List UInt8),litN (92::c::r)=(litN r).map (· + 2):=fun c r=>by
   rw [litN]
   simp only [show ((92:UInt8)==34)=false from rfl,Bool.false_eq_true,if_false,show ((92:UInt8)==92)=true from rfl,if_true]
  have both : ∀ (e:List UInt8),(e.all (fun c => !(c==34) && !(c==92))=true \/ ∃ d q,e=92::d::q/\q.all (fun c => !(c==34) && !(c==92))=true) -> ∀ r,litN (e++r)=(litN r).map (· + e.length):=by
   have plain : ∀ (e:List UInt8),e.all (fun c => !(c==34) && !(c==92))=true -> ∀ r,litN (e++r)=(litN r).map (· + e.length):=fun e=>by
    induction e with
    |nil=>intro _ r;simp
    |cons c q ih =>
     intro h r
     simp only [List.all_cons,Bool.and_eq_true,Bool.not_eq_true'] at h
     rw [List.cons_append,key c _ h.1.1 h.1.2,ih (by simpa using h.2) r,Option.map_map]
     congr 1
   rintro e (h | ⟨d,q,rfl,h⟩) r
   . exact plain e h r
   . rw [List.cons_append,List.cons_append,key2,plain q h r,Option.map_map]
     congr 1
  have shape : ∀ i:Fin 256,((escU (UInt8.ofNat i.val)).all (fun c => !(c==34) && !(c==92))||(match escU (UInt8.ofNat i.val) with | 92::_::q=>q.all (fun c => !(c==34) && !(c==92)) | _=>false))=true:=by decide +kernel
  intro i r
  refine both _ ?_ r
  have h:=shape i
  rw [Bool.or_eq_true] at h
  rcases h with h | h
  . exact .inl h
  . refine .inr ?_
    split at h
    . rename_i d q hq;exact ⟨d,q,hq,h⟩
    . cases h) c r
theorem lit_escL (l r:List UInt8):litN (escL l++r)=(litN r).map (· + (escL l).length):=by
 induction l with
 |nil=>simp [escL]
 |cons c q ih =>
  have e:escL (c::q)=escU c++escL q:=by simp [escL]
  rw [e,List.append_assoc,lit_esc,ih,Option.map_map]
  cases litN r with
  |none=>rfl
  |some n=>simp [List.length_append];omega
theorem Ps.quote (s:List UInt8):Ps (zAx s) [(4,s)]:=fun r kr h=>by
 have e:zAx s++r=34::(escL s++34::r):=by simp [zAx]
 have hl:litN (escL s++34::r)=some ((escL s).length+1):=by
  rw [lit_escL]
  have:litN (34::r)=some 1:=by cases r<;>(unfold litN;rfl)
  rw [this]
  show some (1+(escL s).length)=_
  rw [Nat.add_comm]
 have ht:(escL s++34::r).take ((escL s).length+1)=escL s++[34]:=by
  rw [List.take_append,Nat.add_sub_cancel_left,List.take_of_length_le (by omega)];rfl
 rw [e]
 refine .tok (c:=34) (r:=escL s++34::r) (n:=(escL s).length+1+1) rfl ?_ ?_
 . unfold readU
   simp only [show zAr 34=false from rfl,show ((34:UInt8)==46)=false from rfl,show ((34:UInt8)==45||digU 34)=false from rfl,show letU 34=false from rfl,show ((34:UInt8)==34)=true from rfl,Bool.false_eq_true,if_false,if_true,hl,ht]
   have hq:unquoteU (34::(escL s++[34]))=some s:=by
    have:=zG5 s
    simpa [zAx] using this
   rw [hq]
 . have:(34::(escL s++34::r)).drop ((escL s).length+1+1)=r:=by
    rw [List.drop_succ_cons,List.drop_append,Nat.add_sub_cancel_left,List.drop_of_length_le (by omega)];rfl
   rw [this]
   exact h
inductive All2 (T:Tok->Tok->Prop):List Tok->List Tok->Prop where
 |nil:All2 T [] []
 |cons {a b:Tok} {l m:List Tok} (h:T a b) (t:All2 T l m):All2 T (a::l) (b::m)
structure TR (T:Tok->Tok->Prop) (I:Nat->Nat->Prop):Prop where
 k : ∀ {t t'},T t t'->t.k=t'.k
 s : ∀ {t t'},T t t'->t.s=t'.s
 i : ∀ {t t'},T t t'->I t.i t'.i
 z:I 0 0
structure XR (T:Tok->Tok->Prop) (x x':PS):Prop where
 ts:All2 T x.ts x'.ts
 vr:x.vr=x'.vr
 nd:x.nd=x'.nd
def RR (T:Tok->Tok->Prop) (I:Nat->Nat->Prop) {α:Type}:PR α->PR α->Prop
 |.ok (a,x),.ok (a',x')=>a=a'/\XR T x x'
 |.error e,.error e'=>I e.1 e'.1/\e.2=e'.2
 |_,_=>False
section
variable {T:Tok->Tok->Prop} {I:Nat->Nat->Prop} {α β:Type}
theorem zGB {a b:List Tok} (h:All2 T a b):a.length=b.length:=by induction h with | nil=>rfl | cons _ _ ih=>simp [ih]
theorem all2_drop {a b:List Tok} (h:All2 T a b) : ∀ n,All2 T (a.drop n) (b.drop n):=by
 induction h with
 |nil=>intro n;simp;exact .nil
 |cons h1 h2 ih =>
  intro n
  cases n with
  |zero=>exact .cons h1 h2
  |succ n=>simpa using ih n
theorem XR.hd (hT:TR T I) {x x':PS} (h:XR T x x'):(hdT x').k=(hdT x).k/\(hdT x').s=(hdT x).s/\I (hdT x).i (hdT x').i:=by
 obtain ⟨h1,-,-⟩:=h
 unfold hdT
 generalize x.ts=a at h1
 generalize x'.ts=b at h1
 cases h1 with
 |nil=>exact ⟨rfl,rfl,hT.z⟩
 |cons h2 h3=>exact ⟨(hT.k h2).symm,(hT.s h2).symm,hT.i h2⟩
theorem XR.isS (hT:TR T I) {x x':PS} (h:XR T x x') (s:List UInt8):isS x' s=isS x s:=by
 obtain ⟨h1,h2,-⟩:=h.hd hT
 unfold Go.Proofs.YthjiclhfhjdjpaaGreatDoor.isS
 rw [h1,h2]
theorem XR.nx (hT:TR T I) {x x':PS} (h:XR T x x'):XR T (nxT x) (nxT x'):=by
 obtain ⟨h1,-,-⟩:=h.hd hT
 unfold nxT
 rw [h1]
 split
 . exact h
 . exact ⟨all2_drop h.ts 1,h.vr,h.nd⟩
theorem XR.len {x x':PS} (h:XR T x x'):x'.ts.length=x.ts.length:=(zGB h.ts).symm
theorem RR.err (hT:TR T I) {x x':PS} (h:XR T x x') (e:Int):RR T I (α:=α) (.error ((hdT x).i,e)) (.error ((hdT x').i,e)):=⟨(h.hd hT).2.2,rfl⟩
theorem RR.okk {x x':PS} (h:XR T x x') (a:α):RR T I (.ok (a,x)) (.ok (a,x')):=⟨rfl,h⟩
theorem RR.ite {c:Prop} [Decidable c] {a b a' b':PR α} (h1:c->RR T I a a') (h2 : ¬ c->RR T I b b'):RR T I (if c then a else b) (if c then a' else b'):=by
 split
 . rename_i h;exact h1 h
 . rename_i h;exact h2 h
theorem RR.then {r r':PR α} {f f':α->PS->PR β} (h:RR T I r r') (hf : ∀ a x x',XR T x x'->RR T I (f a x) (f' a x')):RR T I (thenQ r f) (thenQ r' f'):=by
 unfold thenQ
 cases r with
 |error e=>cases r' with | error e'=>exact h | ok a'=>exact h.elim
 |ok a =>
  cases r' with
  |error e'=>exact h.elim
  |ok a' =>
   obtain ⟨a,x⟩:=a
   obtain ⟨a',x'⟩:=a'
   obtain ⟨rfl,hx⟩:=h
   exact hf _ _ _ hx
variable (hT:TR T I)
include hT
theorem zEZ {x x':PS} (h:XR T x x') (s:List UInt8):RR T I (takeQ s x) (takeQ s x'):=by
 unfold takeQ
 rw [h.isS hT]
 exact .ite (fun _ => .okk (h.nx hT) _) fun _ => .err hT h _
theorem zB3 {x x':PS} (h:XR T x x'):RR T I (nameQ x) (nameQ x'):=by
 unfold nameQ
 rw [(h.hd hT).1,(h.hd hT).2.1]
 exact .ite (fun _ => .okk (h.nx hT) _) fun _ => .err hT h _
theorem open_rr : ∀ (f:Nat) {x x':PS},XR T x x'->(openQ f x').1=(openQ f x).1/\XR T (openQ f x).2 (openQ f x').2
 |0,_,_,h=>⟨rfl,h⟩
 |f+1,x,x',h=>by
  unfold openQ
  rw [h.isS hT]
  split
  . obtain ⟨h1,h2⟩:=open_rr f (h.nx hT)
    exact ⟨by simp [h1],h2⟩
  . exact ⟨rfl,h⟩
theorem zLO : ∀ (n:Nat) (w:List Int) {x x':PS},XR T x x'->RR T I (closeQ n w x) (closeQ n w x')
 |0,w,x,x',h=>by
  unfold closeQ
  rw [h.isS hT]
  split
  . exact .okk (h.nx hT) _
  . exact .okk h _
 |n+1,w,x,x',h=>by
  unfold closeQ
  rw [h.isS hT]
  refine .then (zEZ hT ?_ _) fun _ y y' hy=>zLO n _ hy
  split
  . exact h.nx hT
  . exact h
theorem inner_rr {x x':PS} (h:XR T x x'):RR T I (innerQ x) (innerQ x'):=by
 unfold innerQ
 rw [h.len]
 obtain ⟨h1,h2⟩:=open_rr hT x.ts.length h
 rw [h1]
 exact .then (zB3 hT h2) fun _ _ _ hy => .then (zLO hT _ _ hy) fun _ _ _ hz => .okk hz _
theorem typ_rr {x x':PS} (h:XR T x x'):RR T I (typQ x) (typQ x'):=
 .then (inner_rr hT h) fun _ _ _ hy => .ite (fun _ => .err hT h _) fun _ => .okk hy _
theorem zKn {v:PS->PR D} (hv : ∀ {x x':PS},XR T x x'->RR T I (v x) (v x')) : ∀ (f:Nat) (acc:List D) {x x':PS},XR T x x'->RR T I (itemsQ v f acc x) (itemsQ v f acc x')
 |0,_,_,_,h => .err hT h _
 |f+1,acc,x,x',h=>by
  unfold itemsQ
  rw [h.isS hT]
  exact .ite (fun _ => .okk (h.nx hT) _) fun _ => .then (hv h) fun _ _ _ hy=>zKn hv f _ hy
theorem zIY {v:PS->PR D} (hv : ∀ {x x':PS},XR T x x'->RR T I (v x) (v x')) : ∀ (f:Nat) (ks:List (List UInt8)) (acc:List D) {x x':PS},XR T x x'->RR T I (zAJ v f ks acc x) (zAJ v f ks acc x')
 |0,_,_,_,_,h => .err hT h _
 |f+1,ks,acc,x,x',h=>by
  unfold zAJ
  rw [h.isS hT]
  exact .ite (fun _ => .okk (h.nx hT) _) fun _ => .then (zB3 hT h) fun k _ _ hy => .ite (fun _ => .err hT h _) fun _ => .then (zEZ hT hy _) fun _ _ _ hz => .then (hv hz) fun _ _ _ hu=>zIY hv f _ _ hu
theorem noVal_rr {x x':PS} (h:XR T x x'):zCt x'=zCt x:=by
 unfold zCt
 rw [(h.hd hT).1,h.isS hT,h.isS hT,h.isS hT,h.vr]
theorem zG2 : ∀ (f lv:Nat) {x x':PS},XR T x x'->RR T I (valueQ f lv x) (valueQ f lv x')
 |0,_,_,_,h => .err hT h _
 |f+1,lv,x,x',h=>by
  have hy:XR T { nxT x with nd:=x.nd+1 } { nxT x' with nd:=x'.nd+1 }:=⟨(h.nx hT).ts,(h.nx hT).vr,by show x.nd+1=x'.nd+1;rw [h.nd]⟩
  unfold valueQ
  rw [noVal_rr hT h,<- h.nd,(h.hd hT).1,(h.hd hT).2.1]
  rw [<- h.nd] at hy
  refine .ite (fun _ => .err hT h _) fun _ => .ite (fun _ => .err hT h _) fun _ => .ite (fun _ => .err hT h _) fun _ => ?_
  dsimp only
  refine .ite (fun _ => .okk hy _) fun _ => .ite (fun _ => .okk hy _) fun _ => .ite (fun _ => .okk hy _) fun _ => .ite (fun _ => .then (zB3 hT hy) fun _ _ _ hz => .okk hz _) fun _ => .ite (fun _ => ?_) fun _ => ?_
  . have e:(nxT x').ts.length=(nxT x).ts.length:=(h.nx hT).len
    rw [e]
    exact .then (zKn hT (fun h=>zG2 f (lv+1) h) _ _ hy) fun _ _ _ hz => .okk hz _
  . have e:(nxT x').ts.length=(nxT x).ts.length:=(h.nx hT).len
    rw [e]
    exact .then (zIY hT (fun h=>zG2 f (lv+1) h) _ _ _ hy) fun _ _ _ hz => .okk hz _
theorem zJ6 {x x':PS} (h:XR T x x'):RR T I (zA4 x) (zA4 x'):=zG2 hT _ _ ⟨h.ts,h.vr,rfl⟩
theorem zLX : ∀ (f:Nat) (acc:List D) {x x':PS},XR T x x'->RR T I (argsF f acc x) (argsF f acc x')
 |0,_,_,_,h => .err hT h _
 |f+1,acc,x,x',h=>by
  unfold argsF
  rw [h.isS hT,(h.hd hT).1]
  exact .ite (fun _ => .okk (h.nx hT) _) fun _ => .ite (fun _ => .err hT h _) fun _ => .then (zB3 hT h) fun _ _ _ hy => .then (zEZ hT hy _) fun _ _ _ hz => .then (zJ6 hT hz) fun _ _ _ hu=>zLX f _ hu
theorem args_rr {x x':PS} (h:XR T x x'):RR T I (argsQ x) (argsQ x'):=by
 unfold argsQ
 rw [h.isS hT,h.len]
 exact .ite (fun _=>zLX hT _ _ (h.nx hT)) fun _ => .okk h _
theorem zLF : ∀ (f:Nat) (acc:List D) {x x':PS},XR T x x'->RR T I (dirsF f acc x) (dirsF f acc x')
 |0,_,_,_,h => .err hT h _
 |f+1,acc,x,x',h=>by
  unfold dirsF
  rw [h.isS hT]
  exact .ite (fun _ => .ite (fun _ => .err hT h _) fun _ => .then (zB3 hT (h.nx hT)) fun _ _ _ hy => .then (args_rr hT hy) fun _ _ _ hz=>zLF f _ hz) fun _ => .okk h _
theorem zJn {x x':PS} (h:XR T x x'):RR T I (dirsQ x) (dirsQ x'):=by
 unfold dirsQ
 rw [h.len]
 exact zLF hT _ _ h
theorem sel_rr {v:PS->PR (List D)} (hv : ∀ {x x':PS},XR T x x'->RR T I (v x) (v x')) {x x':PS} (h:XR T x x'):RR T I (selQ v x) (selQ v x'):=by
 have hy:=h.nx hT
 unfold selQ
 rw [h.isS hT]
 dsimp only
 rw [(hy.hd hT).1,(hy.hd hT).2.1]
 refine .ite (fun _ => .ite (fun _ => .then (zJn hT (hy.nx hT)) fun _ _ _ hz => .okk hz _) fun _ => .then (.ite (fun _=>zB3 hT (hy.nx hT)) fun _ => .okk hy _) fun _ _ _ hz => .then (zJn hT hz) fun _ _ _ hu => .then (hv hu) fun _ _ _ ho => .okk ho _) fun _ => ?_
 refine .then (zB3 hT h) fun n y y' hy => ?_
 rw [hy.isS hT]
 refine .then (.ite (fun _ => .then (zB3 hT (hy.nx hT)) fun _ _ _ hz => .okk hz _) fun _ => .okk hy _) fun _ _ _ hz => .then (args_rr hT hz) fun _ _ _ hu => .then (zJn hT hu) fun _ _ _ hw => ?_
 rw [hw.isS hT]
 exact .then (.ite (fun _=>hv hw) fun _ => .okk hw _) fun _ _ _ ho => .okk ho _
theorem setF_rr {v:PS->PR D} (hv : ∀ {x x':PS},XR T x x'->RR T I (v x) (v x')) : ∀ (f:Nat) (acc:List D) {x x':PS},XR T x x'->RR T I (setF v f acc x) (setF v f acc x')
 |0,_,_,_,h => .err hT h _
 |f+1,acc,x,x',h=>by
  unfold setF
  rw [h.isS hT,h.isS hT,(h.hd hT).1]
  exact .ite (fun _ => .okk (h.nx hT) _) fun _ => .ite (fun _ => .err hT h _) fun _ => .then (hv h) fun _ _ _ hy=>setF_rr hv f _ hy
theorem sels_rr : ∀ (f lv:Nat) {x x':PS},XR T x x'->RR T I (selsQ f lv x) (selsQ f lv x')
 |0,_,_,_,h => .err hT h _
 |f+1,lv,x,x',h=>by
  unfold selsQ
  rw [h.isS hT]
  refine .ite (fun _ => .err hT h _) fun _ => .then (zEZ hT h _) fun _ y y' hy => ?_
  rw [hy.len]
  exact setF_rr hT (fun h=>sel_rr hT (fun h=>sels_rr f (lv+1) h) h) _ _ hy
theorem set_rr {x x':PS} (h:XR T x x'):RR T I (setQ x) (setQ x'):=sels_rr hT _ _ h
theorem zJ7 : ∀ (f:Nat) (acc:List D) {x x':PS},XR T x x'->RR T I (varsF f acc x) (varsF f acc x')
 |0,_,_,_,h => .err hT h _
 |f+1,acc,x,x',h=>by
  unfold varsF
  rw [h.isS hT,h.isS hT]
  refine .ite (fun _ => .okk (h.nx hT) _) fun _ => .ite (fun _ => .err hT h _) fun _ => .then (zEZ hT h _) fun _ _ _ hy => .then (zB3 hT hy) fun _ _ _ hz => .then (zEZ hT hz _) fun _ _ _ hu => .then (typ_rr hT hu) fun _ v v' hv => ?_
  rw [hv.isS hT]
  refine .then (.ite (fun _ => .then (zJ6 hT ?_) fun d o o' ho=>RR.okk (x:={ o with vr:=true }) (x':={ o' with vr:=true }) ⟨ho.ts,rfl,ho.nd⟩ (true,d)) fun _ => .okk hv _) fun _ _ _ ho=>zJ7 f _ ho
  exact ⟨(hv.nx hT).ts,rfl,(hv.nx hT).nd⟩
theorem op_rr (k:Int) {x x':PS} (h:XR T x x'):RR T I (opQ k x) (opQ k x'):=by
 unfold opQ
 rw [(h.hd hT).1,(h.hd hT).2.1]
 refine .then (.ite (fun _ => .okk (h.nx hT) _) fun _ => .okk h _) fun _ y y' hy => ?_
 rw [hy.isS hT,hy.len]
 exact .then (.ite (fun _=>zJ7 hT _ _ (hy.nx hT)) fun _ => .okk hy _) fun _ _ _ hz => .then (set_rr hT hz) fun _ _ _ hu => .okk hu _
theorem frag_rr {x x':PS} (h:XR T x x'):RR T I (fragQ x) (fragQ x'):=by
 unfold fragQ
 rw [(h.hd hT).2.1]
 refine .ite (fun _ => .err hT h _) fun _ => .then (zB3 hT h) fun _ y y' hy => ?_
 rw [(hy.hd hT).1,(hy.hd hT).2.1]
 exact .ite (fun _ => .then (zB3 hT (hy.nx hT)) fun _ _ _ hz => .then (set_rr hT hz) fun _ _ _ hu => .okk hu _) fun _ => .err hT hy _
theorem zHY : ∀ (f n:Nat) (ops frs:List D) {x x':PS},XR T x x'->RR T I (docF f n ops frs x) (docF f n ops frs x')
 |0,_,_,_,_,_,h => .err hT h _
 |f+1,n,ops,frs,x,x',h=>by
  unfold docF
  rw [h.isS hT,(h.hd hT).1,(h.hd hT).2.1]
  dsimp only
  refine .ite (fun _ => .okk h _) fun _ => .ite (fun _ => .err hT h _) fun _ => .ite (fun _ => .err hT h _) fun _ => .ite (fun _ => .then (set_rr hT h) fun _ _ _ hy=>zHY f _ _ _ hy) fun _ => .ite (fun _ => .then (op_rr hT _ (h.nx hT)) fun _ _ _ hy=>zHY f _ _ _ hy) fun _ => .then (frag_rr hT (h.nx hT)) fun _ _ _ hy=>zHY f _ _ _ hy
theorem doc_rr {ts ts':List Tok} (h:All2 T ts ts'):RR T I (docQ ts) (docQ ts'):=by
 unfold docQ
 rw [<- zGB h]
 exact zHY hT _ _ _ _ ⟨h,rfl,rfl⟩
end
theorem zH3 {p:UInt8->Bool} : ∀ (l:List UInt8),(l.take (spanN p l)).all p=true/\(l.take (spanN p l)).length=spanN p l
 |[]=>⟨rfl,rfl⟩
 |c::r=>by
  have ih:=zH3 (p:=p) r
  rw [spanN]
  split
  . rename_i h
    rw [List.take_succ_cons,List.all_cons,h,ih.1]
    exact ⟨rfl,by rw [List.length_cons,ih.2]⟩
  . exact ⟨rfl,rfl⟩
def likeT (t t':Tok):Prop:=t.k=t'.k/\t.s=t'.s
theorem likeT_tr:TR likeT fun _ _=>True:=⟨fun h=>h.1,fun h=>h.2,fun _=>trivial,trivial⟩
theorem zIy : ∀ {a b:List Tok},a.map bare=b.map bare->All2 likeT a b
 |[],[],_ => .nil
 |[],_::_,h=>by cases h
 |_::_,[],h=>by cases h
 |x::a,y::b,h=>by
  have h1:bare x=bare y:=(List.cons.inj h).1
  have h2:a.map bare=b.map bare:=(List.cons.inj h).2
  exact .cons ⟨congrArg Prod.fst h1,congrArg Prod.snd h1⟩ (zIy h2)
theorem doc_like {ts ts':List Tok} (h:ts'.map bare=ts.map bare):(∀ q z,docQ ts = .ok (q,z) -> ∃ z',docQ ts' = .ok (q,z'))/\(∀ i e,docQ ts = .error (i,e) -> ∃ i',docQ ts' = .error (i',e)):=by
 have hr:=doc_rr likeT_tr (zIy h.symm)
 constructor
 . intro q z hq
   rw [hq] at hr
   cases h2:docQ ts' with
   |error e=>rw [h2] at hr;exact hr.elim
   |ok p =>
    obtain ⟨q',z'⟩:=p
    rw [h2] at hr
    obtain ⟨rfl,-⟩:=hr
    exact ⟨z',rfl⟩
 . intro i e hq
   rw [hq] at hr
   cases h2:docQ ts' with
   |error e' =>
    obtain ⟨i',e'⟩:=e'
    rw [h2] at hr
    obtain ⟨-,rfl⟩:=hr
    exact ⟨i',rfl⟩
   |ok p=>rw [h2] at hr;exact hr.elim
end
section
open Go.RowKit
attribute [local irreducible] wpList Calls Code.wp
theorem numU_empty {l:List UInt8} (h:magU l=[]):numU l=Lib.NumEnd.syntax:=by unfold numU;rw [if_pos (.inl h)]
theorem numU_zero {l:List UInt8} (h:(magU l).head? = some 48) (h1:1<l.length):numU l=Lib.NumEnd.syntax:=by unfold numU;rw [if_pos (.inr ⟨h,h1⟩)]
theorem numU_bad {l:List UInt8} (h:(magU l).all digU=false):numU l=Lib.NumEnd.syntax:=by
 unfold numU
 by_cases h0:magU l=[]\/(magU l).head? = some 48/\1<l.length
 . rw [if_pos h0]
 . rw [if_neg h0,if_pos h]
theorem numU_val {l:List UInt8} (h0:magU l≠[]) (h1 : ¬ ((magU l).head? = some 48/\1<l.length)) (h:(magU l).all digU=true):numU l=Lib.atoiAll l:=by
 rw [zLT l h0 h]
 unfold numU
 rw [if_neg (fun e=>e.elim h0 h1),if_neg (by rw [h];simp)]
theorem atoi_ns {l:List UInt8} (h0:magU l≠[]) (h:(magU l).all digU=true):Lib.atoiAll l≠Lib.NumEnd.syntax:=by
 rw [zLT l h0 h]
 intro e
 split at e<;>split at e<;>cases e
theorem trim_mag (l:List UInt8):Lib.trimPrefix l [45]=magU l:=by
 cases l with
 |nil=>rfl
 |cons c r =>
  unfold Lib.trimPrefix Lib.hasPrefix magU
  by_cases h:c=45
  . subst h;simp
  . have h' : ¬ (45:UInt8)=c:=fun e=>h e.symm
    simp [h,h']
theorem mag_length (l:List UInt8):(magU l).length<=l.length:=by
 unfold magU;split
 . simp
 . exact Nat.le_refl _
theorem bV_bs {l:List UInt8} {k:Nat} (h:k<l.length):bV (bs l) k=((l[k]'h).toNat:Int):=by
 unfold bV
 rw [zAi]
 simp [List.getElem?_eq_getElem h]
theorem digB_U (c:UInt8):digB (c.toNat:Int)=digU c:=by
 rw [Bool.eq_iff_iff,zCk]
 simp [digB];omega
theorem all_dig {l:List UInt8} (h : ∀ k,k<l.length->digB (bV (bs l) k)=true):l.all digU=true:=by
 rw [List.all_eq_true]
 intro c hc
 obtain ⟨k,hk,rfl⟩:=List.mem_iff_getElem.1 hc
 rw [<- digB_U,<- bV_bs hk];exact h k hk
theorem not_dig {l:List UInt8} {k:Nat} (hk:k<l.length) (h:digB (bV (bs l) k)=false):l.all digU=false:=by
 rw [List.all_eq_false]
 refine ⟨l[k],List.getElem_mem hk,?_⟩
 rw [<- digB_U,<- bV_bs hk,h];simp
theorem head_bs {l:List UInt8} (h:0<l.length):l.head? = some 48 ↔ bV (bs l) 0=48:=by
 cases l with
 |nil=>simp at h
 |cons c r =>
  rw [bV_bs h,List.head?_cons]
  constructor
  . intro e;rw [Option.some.inj e] at *;rfl
  . intro e
    have e:c.toNat=UInt8.toNat 48:=by have:UInt8.toNat 48=48:=rfl;simp at e;omega
    rw [UInt8.toNat_inj.1 e]
def numT:Lib.NumEnd Int->Value
 |.ok v => .tuple #[.int .i64 v,.int .i64 0]
 |Lib.NumEnd.syntax => .tuple #[.int .i64 0,.int .i64 3]
 |.range => .tuple #[.int .i64 0,.int .i64 4]
def Nm (r:Lib.NumEnd Int) (w:World) (e:Ending) (w':World):Prop:=e = .returned (numT r)/\Below w.heap.size w w'
theorem numberP (s:ByteArray) (w:World) (he:Env w) (hs:s.size<=281474976710656):Calls Tryz.prog 165 #[.string s] w (Nm (numU s.data.toList) w):=by
 have HT:=Lib.hid (Tryz.strings_TrimPrefix s (bs [45]) w)
 have HE:=Lib.hid he;clear he
 have hml:=mag_length s.data.toList
 have hsl:s.data.toList.length=s.size:=by simp
 rw [hsl] at hml
 have ht:(⟨(Lib.trimPrefix s.data.toList (bs [45]).data.toList).toArray⟩:ByteArray)=bs (magU s.data.toList):=by rw [zAi,trim_mag];rfl
 rw [ht] at HT
 have hds:(bs (magU s.data.toList)).size=(magU s.data.toList).length:=zS _
 have Hlen:=Lib.hid hsl
 obtain ⟨l,hl⟩ : ∃ l,l=s.data.toList:=⟨_,rfl⟩
 rw [<- hl] at hml HT hds Hlen |-
 have Hl:=Lib.hid hl;clear hl ht hsl
 obtain ⟨d,hd⟩ : ∃ d,d=bs (magU l):=⟨_,rfl⟩
 rw [<- hd] at HT hds
 have Hd:=Lib.hid hd;clear hd
 have Hds:=Lib.hid hds
 have hdz:d.size<=s.size:=by omega
 clear hds hml
 by_cases h0:d.size=0
 . have Hn:=Lib.hid (numU_empty (l:=l) (List.eq_nil_of_length_eq_zero (by rw [<- Hds.out];exact h0)))
   obtain ⟨q0,q00⟩:=eq_empty (s:=d) h0
   clear h0
   go_enter Tryz.func165,Tryz.ntmps165
   go_wp2_with fail
   refine HT.out.mono ?_
   rintro e w2 ⟨rfl,rfl⟩
   go_wp2
   go_ret2
   exact ⟨by rw [Hn.out];rfl,Below.refl _ _⟩
 have hd0:0<d.size:=by omega
 obtain ⟨q0,q00⟩:=ne_empty hd0
 have hi0:(0:Int)<(d.size:Int):=by omega
 have hb0:=zHg hd0
 have hr0:=zDS d 0
 have Hhead:=Lib.hid (head_bs (l:=magU l) (by rw [<- Hds.out];exact hd0))
 rw [<- Hd.out] at Hhead
 by_cases hz:bV d 0=48/\1<s.size
 . have Hn:=Lib.hid (numU_zero (l:=l) (Hhead.out.2 hz.1) (by rw [Hlen.out];exact hz.2))
   have q1:decide ((s.size:Int)>1)=true:=decide_eq_true (by omega)
   rw [hz.1] at hb0
   clear hz
   go_enter Tryz.func165,Tryz.ntmps165
   go_wp2_with fail
   refine HT.out.mono ?_
   rintro e w2 ⟨rfl,rfl⟩
   by_cases hd1:1<d.size
   . have q2:decide ((d.size:Int)>1)=true:=decide_eq_true (by omega)
     go_wp2
     go_ret2
     exact ⟨by rw [Hn.out];rfl,Below.refl _ _⟩
   . have q2:decide ((d.size:Int)>1)=false:=decide_eq_false (by omega)
     go_wp2
     go_ret2
     exact ⟨by rw [Hn.out];rfl,Below.refl _ _⟩
 have Hne:=Lib.hid (show magU l≠[] from fun e=>by have h:=Hds.out;rw [e] at h;exact h0 h)
 have Hnz:=Lib.hid (show ¬ ((magU l).head? = some 48/\1<l.length) from fun e=>hz ⟨Hhead.out.1 e.1,by rw [<- Hlen.out];exact e.2⟩)
 have Hz:=Lib.hid hz;clear hz Hhead
 have hpre:bV d 0=48->s.size<=1:=fun e=>by
  have h:=Hz.out
  rcases Nat.lt_or_ge 1 s.size with h1 | h1
  . exact absurd ⟨e,h1⟩ h
  . exact h1
 have Hds2:=Lib.hid (show d.size=(magU l).length from Hds.out)
 have Hbad:=Lib.hid (show ∀ x,x<d.size->digB (bV d x)=false->numU l=Lib.NumEnd.syntax from fun x hx h=>numU_bad (not_dig (k:=x) (by rw [<- Hds2.out];exact hx) (by rw [<- Hd.out];exact h)))
 have Hgood:=Lib.hid (show (∀ k,k<d.size->digB (bV d k)=true)->numU l=Lib.atoiAll l/\Lib.atoiAll l≠Lib.NumEnd.syntax from fun h=>have ha:(magU l).all digU=true:=all_dig fun k hk=>by (rw [<- Hd.out];exact h k (by rw [Hds2.out];exact hk))
  ⟨numU_val Hne.out Hnz.out ha,atoi_ns Hne.out ha⟩)
 have Hsl:=Lib.hid (show l=s.data.toList from Hl.out)
 clear Hne Hnz Hz Hds Hds2 Hd Hl Hlen
 have hcs:(bV d 0=48/\s.size<=1) \/ ¬ bV d 0=48:=by
  by_cases e:bV d 0=48
  . exact .inl ⟨e,hpre e⟩
  . exact .inr e
 clear hpre
 obtain ⟨v0,hv0⟩ : ∃ v0,v0=bV d 0:=⟨_,rfl⟩
 rw [<- hv0] at hb0 hr0 hcs
 clear hv0
 rcases hcs with ⟨hc,hc2⟩ | hc
 all_goals first
  |(subst hc
    have q1:decide ((s.size:Int)>1)=false:=decide_eq_false (by omega)
    have q2:decide ((d.size:Int)>1)=false:=decide_eq_false (by omega))
  |(have q1:(v0==48)=false:=beq_false_of_ne hc)
 all_goals
  go_enter Tryz.func165,Tryz.ntmps165
  go_wp2_with fail
  refine HT.out.mono ?_
  rintro e w2 ⟨rfl,rfl⟩
  go_wp2
  go_loop [29] (fun i => ∃ m:Nat,m<=d.size/\i = .int .i64 m /\ ∀ k,k<m->digB (bV d k)=true) (fun i=>d.size-(intOf i).toNat)
  case atStart=>exact ⟨0,by omega,rfl,fun k hk=>by omega⟩
  case round =>
   obtain ⟨x,hx,rfl,hall⟩:=hrel
   have Hall:=Lib.hid hall
   clear hall hb0 hr0
   by_cases hlt:x<d.size
   . have hb:=zHg hlt
     have hr:=zDS d x
     have Hat:=Lib.hid (Hbad.out x hlt)
     have Hstep:=Lib.hid (show digB (bV d x)=true -> ∀ k,k<x+1->digB (bV d k)=true from fun h k hk=>by
      by_cases e:k=x
      . rw [e];exact h
      . exact Hall.out k (by omega))
     have hv:bV d x<48\/(48<=bV d x/\bV d x<=57)\/57<bV d x:=by omega
     generalize bV d x=v at *
     rcases hv with h | h | h
     . have Hno:=Lib.hid (Hat.out (zDP (by omega)))
       go_wp2
       go_ret2
       exact ⟨by rw [Hno.out];rfl,Below.refl _ _⟩
     . have Hok:=Lib.hid (Hstep.out (zIi h))
       go_wp2
       go_round
       case rel=>exact ⟨x+1,by omega,by go_num,Hok.out⟩
       case measure=>simp [intOf];omega
     . have Hno:=Lib.hid (Hat.out (zDP (by omega)))
       go_wp2
       go_ret2
       exact ⟨by rw [Hno.out];rfl,Below.refl _ _⟩
   . obtain rfl:x=d.size:=by omega
     have Hn:=Lib.hid (Hgood.out Hall.out).1
     cases hat:Lib.atoiAll l with
     |ok v =>
      have HA:=Lib.hid (Tryz.strconv_Atoi_ok s (by omega) v (by rw [<- Hsl.out];exact hat) w2)
      rw [hat] at Hn
      clear hat
      go_wp2_with fail
      refine HA.out.mono ?_
      rintro e w3 ⟨rfl,hw⟩
      have hb:Below w2.heap.size w2 w3:=by
       rcases hw with rfl | ⟨t,rfl⟩
       . exact Below.refl _ _
       . exact Lib.bytesWorld_below _ _ _
      have Hb:=Lib.hid hb
      clear hb hw
      go_wp2
      go_ret2
      exact ⟨by rw [Hn.out];rfl,Hb.out⟩
     |range =>
      obtain ⟨tp,p,hv⟩:=HE.out.2.1
      have HA:=Lib.hid (Tryz.strconv_Atoi_range_var s hs (by rw [<- Hsl.out];exact hat) tp p w2 hv)
      rw [hat] at Hn
      clear hat hv
      go_wp2_with fail
      refine HA.out.mono ?_
      rintro e w3 ⟨N,rfl,hN,hc,hb⟩
      have Hb:=Lib.hid hb
      clear hb hc
      go_wp2
      go_ret2
      exact ⟨by rw [Hn.out];rfl,Hb.out⟩
     |_ =>
      exfalso
      exact (Hgood.out Hall.out).2 hat
end
end Go.Proofs.YthjiclhfhjdjpaaGreatDoor
