import Derived.Test.YthppafnlnnpciaaGreatDoorV31
import Derived.Test.YthppafnlnnpciaaGreatDoorV34
import Derived.Test.YthppafnlnnpciaaGreatDoorV35
set_option maxHeartbeats 8000000
set_option maxRecDepth 100000
set_option linter.unusedVariables false
set_option linter.unusedSimpArgs false
namespace Go.Proofs.YthppafnlnnpciaaGreatDoor
section
open Go.RowKit
set_option linter.unusedSectionVars false
theorem zCy (f:Nat->List UInt8) (i:Nat):flatN f (i+1)=flatN f i++f i:=rfl
theorem zAQ {a b:ByteArray} (h:tx a=tx b):V.c (.string a)=V.c (.string b):=by rw [<- zEO a,h,zEO]
theorem zAP (l:List UInt8):tx ({ data:=l.toArray }:ByteArray)=l:=rfl
attribute [local irreducible] wpList Calls Code.wp AW AWo OpOk seqK zz z8 loopK endK AC zl Yld Sub
attribute [local irreducible] ACB ACX ACE absLexG YldG absLexH
end
section
open Go.RowKit
set_option linter.unusedSectionVars false
def K6:Nat:=1048576
theorem strsJ_at (f:Nat->List UInt8) {n i:Nat} (h:i<n):(gD (zAA f n) i).s=bs (f i):=by
 unfold zAA gD
 rw [List.getD_eq_getElem?_getD,List.getElem?_map,List.getElem?_range h];rfl
theorem zCj (f:Nat->List UInt8) {n i:Nat} (h:i<n):(gD (zAA f n) ((i:Int)).toNat).s=bs (f i):=strsJ_at f h
attribute [local irreducible] wpList Calls Code.wp AW AWo OpOk seqK zz z8 loopK endK AC zl Yld Sub
attribute [local irreducible] ACB ACX ACE absLexG YldG absLexH
theorem zEr {l:List D} (h:DirsOk K6 l):AC EN Tryz.prog 99 [.sl 108 l] (.c (.string (bs (zAV K6 l)))):=by
 have hd:=dirsP_ac K6 l h
 have hds:=zFe K6 l h.wide
 have hbk:=h.bulk
 by_cases h0:l.length=0
 . have f0:((l.length:Int)==0)=true:=by rw [h0];rfl
   have e:zAV K6 l=[]:=by unfold zAV;rw [if_pos h0]
   rw [e]
   refine zN 9 Tryz.func99 rfl rfl rfl rfl ?_
   intro s w he
   repeat' (first
|apply zG
 . conv=>lhs;whnf
 . assumption
|refine zA ?_
|refine zB ?_
|refine zH ?_
|apply aw_1
 conv=>whnf
 refine ⟨?_,trivial⟩
|apply s_1
 conv=>whnf;arg 1;arg 4;arg 3;whnf
 refine ⟨?_,?_⟩
|refine zO ?_
|refine zE ?_
|refine ⟨_,by conv=>lhs;whnf;arg 2;whnf,?_⟩;conv=>rhs;whnf
|exact trivial)
   all_goals rfl
 . have f0:((l.length:Int)==0)=false:=by rw [beq_eq_false_iff_ne];omega
   have e:zAV K6 l=[32]++zJZ K6 l:=by unfold zAV;rw [if_neg h0]
   rw [e]
   refine zN 9 Tryz.func99 rfl rfl rfl rfl ?_
   intro s w he
   repeat' (first
|apply zC
 . conv=>lhs;whnf
 . assumption
|refine zA ?_
|refine zB ?_
|refine zH ?_
|apply aw_1
 conv=>whnf
 refine ⟨?_,trivial⟩
|apply s_1
 conv=>whnf;arg 1;arg 4;arg 3;whnf
 refine ⟨?_,?_⟩
|apply ze rfl
 . conv=>lhs;whnf
 . conv=>lhs;whnf
 . first | exact hd
|refine zE ?_
|refine ⟨_,by conv=>lhs;whnf;arg 2;whnf,?_⟩;conv=>rhs;whnf
|exact trivial)
   all_goals first
    |(refine zAQ ?_;simp only [zAB,zBD,zAP];done)
    |(simp only [ByteArray.size_append,zW,zt,List.size_toArray,List.length_append,List.length_cons,List.length_nil,maxLen,Int.toNat_natCast,Nat.zero_add,Nat.reduceAdd];omega)
    |skip
theorem dok6 {l:List D} (h:DirsP l) (hw : ∀ i,wideD (gD l i)) (hb:bulkL l<=1048576):DirsOk K6 l:=zIX (Nat.le_refl _) (zHQ h) hw hb
theorem zIM {x:D} (h:InP x) (hw:wideD x) (hb:bulkD x<=1048576):AC EN Tryz.prog 101 [.agg (cellsV Tryz.prog 12 55 x)] (.c (.string (bs (inB6 K6 x)))):=by
 have w:=zb x
 have wf:=zAJ x 5
 simp only [sumN] at wf
 have b0:=zAX (x.f 0)
 have b1:=zAJ (x.f 1) 2
 simp only [sumN] at b1
 have b10:=zAX ((x.f 1).f 0);have t10:=zA0 ((x.f 1).f 0).s
 have b11:=zn ((x.f 1).f 1);have l11:=zAK ((x.f 1).f 1).l
 have b3:=zb (x.f 3)
 have b4:=zn (x.f 4)
 have h1:=refP_ac (tx ((x.f 1).f 0).s) ((x.f 1).f 1).l (by omega) (by omega)
 rw [zEO] at h1
 have z1:=zEs (tx ((x.f 1).f 0).s) ((x.f 1).f 1).l
 have h2:=zDi K6 (x.f 3) (zCR K6 _ (by unfold K6;omega)) (hw.f 3) (zKG h.val.lit) (by omega)
 have z2:=zBJ K6 (x.f 3) (hw.f 3)
 have h3:=zEr (dok6 h.dirs (hw.f 4).l (by omega))
 have z3:=zAw K6 (x.f 4).l (hw.f 4).l
 cases hB:(x.f 2).b with
 |true =>
  have e:inB6 K6 x=tx (x.f 0).s++[58,32]++refB (tx ((x.f 1).f 0).s) ((x.f 1).f 1).l++([32,61,32]++valT K6 (x.f 3))++zAV K6 (x.f 4).l:=by unfold inB6;rw [if_pos hB]
  rw [e]
  refine zN 24 Tryz.func101 rfl rfl rfl rfl ?_
  intro s w he
  repeat' (first
|apply zG
 . conv=>lhs;whnf
 . assumption
|refine zA ?_
|refine zB ?_
|refine zH ?_
|apply aw_1
 conv=>whnf
 refine ⟨?_,trivial⟩
|apply s_1
 conv=>whnf;arg 1;arg 4;arg 3;whnf
 refine ⟨?_,?_⟩
|apply ze rfl
 . conv=>lhs;whnf
 . conv=>lhs;whnf
 . first | exact h1 | exact h2 | exact h3
|apply zAL rfl rfl rfl rfl
 . conv=>lhs;whnf;arg 1;whnf
 . rfl
|apply zAF (by kernel_rfl) (by kernel_rfl)
|apply zAs
|apply zAr rfl
 . conv=>lhs;whnf
 . conv=>lhs;whnf;arg 2;whnf
|apply zBa rfl
 . conv=>lhs;whnf
 . conv=>lhs;whnf
 . first | exact h1 | exact h2 | exact h3
|exact zk
|exact zv
|exact (1000000:Nat)
|refine zE ?_
|refine ⟨_,by conv=>lhs;whnf;arg 2;whnf,?_⟩;conv=>rhs;whnf
|exact trivial)
  all_goals first
   |(refine zAQ ?_;simp only [zAB,zBD,zAP,List.append_assoc];done)
   |(simp only [ByteArray.size_append,zW,zt,List.size_toArray,List.length_append,List.length_cons,List.length_nil,maxLen,Int.toNat_natCast,Nat.zero_add,Nat.reduceAdd];omega)
   |skip
 |false =>
  have e:inB6 K6 x=tx (x.f 0).s++[58,32]++refB (tx ((x.f 1).f 0).s) ((x.f 1).f 1).l++zAV K6 (x.f 4).l:=by unfold inB6;rw [if_neg (by rw [hB];decide),List.append_nil]
  rw [e]
  refine zN 24 Tryz.func101 rfl rfl rfl rfl ?_
  intro s w he
  repeat' (first
|apply zC
 . conv=>lhs;whnf
 . assumption
|refine zA ?_
|refine zB ?_
|refine zH ?_
|apply aw_1
 conv=>whnf
 refine ⟨?_,trivial⟩
|apply s_1
 conv=>whnf;arg 1;arg 4;arg 3;whnf
 refine ⟨?_,?_⟩
|apply ze rfl
 . conv=>lhs;whnf
 . conv=>lhs;whnf
 . first | exact h1 | exact h2 | exact h3
|apply zAL rfl rfl rfl rfl
 . conv=>lhs;whnf;arg 1;whnf
 . rfl
|apply zAF (by kernel_rfl) (by kernel_rfl)
|apply zAs
|apply zAr rfl
 . conv=>lhs;whnf
 . conv=>lhs;whnf;arg 2;whnf
|apply zBa rfl
 . conv=>lhs;whnf
 . conv=>lhs;whnf
 . first | exact h1 | exact h2 | exact h3
|exact zk
|exact zv
|exact (1000000:Nat)
|refine zE ?_
|refine ⟨_,by conv=>lhs;whnf;arg 2;whnf,?_⟩;conv=>rhs;whnf
|exact trivial)
  all_goals first
   |(refine zAQ ?_;simp only [zAB,zBD,zAP,List.append_assoc];done)
   |(simp only [ByteArray.size_append,zW,zt,List.size_toArray,List.length_append,List.length_cons,List.length_nil,maxLen,Int.toNat_natCast,Nat.zero_add,Nat.reduceAdd];omega)
   |skip
noncomputable def HfP6 (x:D) (i:Nat):Vst 41:=stS 41 [(1,.bx 1 0),(3,.c (.string (x.f 0).s)),(4,.own 4 9 (zAA (fun i=>inB6 K6 (gD (x.f 1).l i)) i)),(10,.sl 55 (x.f 1).l),(11,.c (.int .i64 ((x.f 1).l.length:Nat))),(12,.c (.int .i64 (i:Int)))] [(1,.box 50 (cellsV Tryz.prog 12 50 x)),(4,.tok 9 (zAA (fun i=>inB6 K6 (gD (x.f 1).l i)) i).length)]
theorem zFa {x:D} (h:FdP x) (hw:wideD x) (hb:bulkD x<=1048576):AC EN Tryz.prog 100 [.agg (cellsV Tryz.prog 12 50 x)] (.c (.string (bs (fdT6 K6 x)))):=by
 have w:=zb x
 have wf:=zAJ x 4
 simp only [sumN] at wf
 have b0:=zAX (x.f 0)
 have b1:=zn (x.f 1);have l1:=zAK (x.f 1).l
 have b2:=zAJ (x.f 2) 2
 simp only [sumN] at b2
 have b20:=zAX ((x.f 2).f 0);have t20:=zA0 ((x.f 2).f 0).s
 have b21:=zn ((x.f 2).f 1);have l21:=zAK ((x.f 2).f 1).l
 have b3:=zn (x.f 3)
 have h1:=refP_ac (tx ((x.f 2).f 0).s) ((x.f 2).f 1).l (by omega) (by omega)
 rw [zEO] at h1
 have z1:=zEs (tx ((x.f 2).f 0).s) ((x.f 2).f 1).l
 have h3:=zEr (dok6 h.dirs (hw.f 3).l (by omega))
 have z3:=zAw K6 (x.f 3).l (hw.f 3).l
 have z2:=zIL K6 (x.f 1).l (hw.f 1).l
 have hj:=zCw (zAA (fun i=>inB6 K6 (gD (x.f 1).l i)) (x.f 1).l.length) [44,32] (by rw [zAH];omega) (by rw [zAf];exact Nat.le_trans z2 (by omega))
 rw [zAf] at hj
 have hj:AC EN Tryz.prog 44 [.sl 9 (zAA (fun i=>inB6 K6 (gD (x.f 1).l i)) (x.f 1).l.length),.c (.string (bs [44,32]))] (.c (.string (bs (zJP K6 (x.f 1).l)))):=hj
 refine zN 41 Tryz.func100 rfl rfl rfl rfl ?_
 intro s w he
 repeat' (first
|refine zA ?_
|refine zB ?_
|refine zH ?_
|apply aw_1
 conv=>whnf
 refine ⟨?_,trivial⟩
|apply s_1
 conv=>whnf;arg 1;arg 4;arg 3;whnf
 refine ⟨?_,?_⟩
|apply zAL rfl rfl rfl rfl
 . conv=>lhs;whnf;arg 1;whnf
 . rfl
|exact trivial)
 refine zg (Sub.own (t:=4) (e:=9) rfl rfl) ?_
 refine zi (fun j st => ∃ i,i+j=(x.f 1).l.length/\Sub (cx EN Tryz.prog s w he) st (HfP6 x i)) (x.f 1).l.length ⟨0,by omega,Sub.live ⟨rfl,rfl,rfl,rfl,rfl,rfl,trivial⟩ ⟨rfl,rfl,trivial⟩⟩ ?_
 rintro j st ⟨i,hij,hs2⟩
 refine zg hs2 ?_
 clear hs2
 have htk:=zAH (fun i=>inB6 K6 (gD (x.f 1).l i)) i
 by_cases hi:i<(x.f 1).l.length
 . have f1:decide ((i:Int)<((x.f 1).l.length:Nat))=true:=decide_eq_true (by omega)
   have hbg:=zAE hi
   have hk:=zIM (h.args.ins i hi) ((hw.f 1).l i) (by omega)
   repeat' (first
|apply zG
 . conv=>lhs;whnf
 . assumption
|refine zA ?_
|refine zB ?_
|refine zH ?_
|refine zR ?_
|apply aw_1
 conv=>whnf
 refine ⟨?_,trivial⟩
|apply s_1
 conv=>whnf;arg 1;arg 4;arg 3;whnf
 refine ⟨?_,?_⟩
|apply ze rfl
 . conv=>lhs;whnf
 . conv=>lhs;whnf
 . first | exact hk
|apply zS rfl rfl rfl
 . conv=>lhs;whnf
 . conv=>lhs;whnf;arg 1;whnf
 . conv=>lhs;whnf;arg 1;whnf
 . exact ⟨by kernel_rfl,by kernel_rfl⟩
 . rfl
|apply zBf rfl rfl
 . conv=>lhs;whnf
 . first | exact zm | (conv=>lhs;whnf;arg 1;whnf)
 . first | exact fun _=>rfl | (intro _;kernel_rfl)
 . conv=>lhs;whnf
 . conv=>lhs;whnf;arg 1;whnf
 . conv=>lhs;whnf
|apply zBb rfl rfl
 . conv=>lhs;whnf
 . first | exact zm | (conv=>lhs;whnf;arg 1;whnf)
 . conv=>lhs;whnf;arg 1;whnf
 . rfl
 . rfl
|exact trivial)
   all_goals first
    |exact zU (by omega)
    |exact zAI hi
    |exact zCG (by omega) (by omega)
    |(refine zI (j':=j-1) (by omega) ⟨i+1,by omega,Sub.live ⟨rfl,rfl,?_,rfl,rfl,rfl,trivial⟩ ⟨rfl,?_,trivial⟩⟩
      . show V.own 4 _ (zAA _ i++[.str (bs (inB6 K6 (gD (x.f 1).l i)))])=_
        rw [zx]
      . show some (Res.tok _ ((zAA _ i).length+1))=_
        rw [zx,List.length_append];rfl)
    |skip
 . have f1:decide ((i:Int)<((x.f 1).l.length:Nat))=false:=decide_eq_false (by omega)
   have ei:i=(x.f 1).l.length:=by omega
   subst ei
   by_cases h0:(x.f 1).l.length=0
   . have g1:decide (((zAA (fun i=>inB6 K6 (gD (x.f 1).l i)) (x.f 1).l.length).length:Int)>0)=false:=decide_eq_false (by omega)
     have e:fdT6 K6 x=tx (x.f 0).s++[58,32]++refB (tx ((x.f 2).f 0).s) ((x.f 2).f 1).l++zAV K6 (x.f 3).l:=by unfold fdT6;rw [if_pos h0,List.append_nil]
     rw [e]
     repeat' (first
|apply zC
 . conv=>lhs;whnf
 . assumption
|refine zA ?_
|refine zB ?_
|refine zH ?_
|apply aw_1
 conv=>whnf
 refine ⟨?_,trivial⟩
|apply s_1
 conv=>whnf;arg 1;arg 4;arg 3;whnf
 refine ⟨?_,?_⟩
|apply zAF (by kernel_rfl) (by kernel_rfl)
|apply zAs
|apply zAr rfl
 . conv=>lhs;whnf
 . conv=>lhs;whnf;arg 2;whnf
|apply zBa rfl
 . conv=>lhs;whnf
 . conv=>lhs;whnf
 . first | exact hj | exact h1 | exact h3
|exact zk
|exact zv
|exact (1000000:Nat)
|refine zM ?_
|refine zK rfl ?_
|refine zJ ?_
|refine zE ?_
|refine ⟨_,by conv=>lhs;whnf;arg 2;whnf,?_⟩;conv=>rhs;whnf
|exact trivial)
     all_goals first
      |(refine zAQ ?_;simp only [zAB,zBD,zAP,List.append_assoc];done)
      |(simp only [ByteArray.size_append,zW,zt,List.size_toArray,List.length_append,List.length_cons,List.length_nil,maxLen,Int.toNat_natCast,Nat.zero_add,Nat.reduceAdd];omega)
      |skip
   . have g1:decide (((zAA (fun i=>inB6 K6 (gD (x.f 1).l i)) (x.f 1).l.length).length:Int)>0)=true:=decide_eq_true (by omega)
     have e:fdT6 K6 x=tx (x.f 0).s++([40]++zJP K6 (x.f 1).l++[41])++[58,32]++refB (tx ((x.f 2).f 0).s) ((x.f 2).f 1).l++zAV K6 (x.f 3).l:=by unfold fdT6;rw [if_neg h0]
     rw [e]
     repeat' (first
|apply zG
 . conv=>lhs;whnf
 . assumption
|apply zC
 . conv=>lhs;whnf
 . assumption
|refine zA ?_
|refine zB ?_
|refine zH ?_
|apply aw_1
 conv=>whnf
 refine ⟨?_,trivial⟩
|apply s_1
 conv=>whnf;arg 1;arg 4;arg 3;whnf
 refine ⟨?_,?_⟩
|apply ze rfl
 . conv=>lhs;whnf
 . conv=>lhs;whnf
 . first | exact hj | exact h1 | exact h3
|apply zAF (by kernel_rfl) (by kernel_rfl)
|apply zAs
|apply zAr rfl
 . conv=>lhs;whnf
 . conv=>lhs;whnf;arg 2;whnf
|apply zBa rfl
 . conv=>lhs;whnf
 . conv=>lhs;whnf
 . first | exact hj | exact h1 | exact h3
|exact zk
|exact zv
|exact (1000000:Nat)
|refine zM ?_
|refine zK rfl ?_
|refine zJ ?_
|refine zE ?_
|refine ⟨_,by conv=>lhs;whnf;arg 2;whnf,?_⟩;conv=>rhs;whnf
|exact trivial)
     all_goals first
      |(refine zAQ ?_;simp only [zAB,zBD,zAP,List.append_assoc];done)
      |(simp only [ByteArray.size_append,zW,zt,List.size_toArray,List.length_append,List.length_cons,List.length_nil,maxLen,Int.toNat_natCast,Nat.zero_add,Nat.reduceAdd];omega)
      |skip
end
end Go.Proofs.YthppafnlnnpciaaGreatDoor
