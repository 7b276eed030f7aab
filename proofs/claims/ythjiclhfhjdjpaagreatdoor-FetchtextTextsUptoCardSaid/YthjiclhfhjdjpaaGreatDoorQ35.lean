import Derived.Test.YthjiclhfhjdjpaaGreatDoorQ34
set_option maxHeartbeats 8000000
set_option maxRecDepth 100000
set_option linter.unusedVariables false
set_option linter.unusedSimpArgs false
namespace Go.Proofs.YthjiclhfhjdjpaaGreatDoor
section
open Go.RowKit
set_option linter.unusedSectionVars false
attribute [local irreducible] wpList Calls Code.wp AW AWo OpOk seqK zAG zAP loopK endK AC zt Yld Sub
attribute [local irreducible] ACB ACX ACE absLexG YldG absLexH
theorem zHz (x:ByteArray) (hs:x.size<=1000000000):AC EN Tryz.prog 69 [.c (.string x)] (.c (.bool (titleR x))):=by
 have hn:=zAa x hs
 have hT:(x.toList==({ data:=#[111,110] }:ByteArray).toList)=(x.data.toList==[111,110]):=zGN _ _
 unfold titleR
 refine zG 9 Tryz.func69 rfl rfl rfl rfl ?_
 intro s w he
 repeat' (first
|refine zB ?_
|refine zC ?_
|refine zI ?_
|apply aw_1
 conv=>whnf
 refine ⟨?_,trivial⟩
|apply ze rfl rfl
 . conv=>lhs;whnf
 . conv=>lhs;whnf
 . first | exact bT1 ‹_› | exact bT2 ‹_›
|apply zZ rfl rfl
 . conv=>lhs;whnf
 . conv=>lhs;whnf
 . first | exact bF1 ‹_› | exact bF2 ‹_›
|apply s_1
 conv=>whnf;arg 1;arg 4;arg 3;whnf
 refine ⟨?_,?_⟩
|apply zd rfl
 . conv=>lhs;whnf
 . conv=>lhs;whnf
 . first | exact hn
|apply zF rfl
 . conv=>lhs;whnf
 . conv=>lhs;whnf
 . first | rfl | assumption
 . conv=>lhs;whnf;arg 2;whnf
|apply zo rfl
 . conv=>lhs;whnf
 . conv=>lhs;whnf
 . first | rfl | assumption
|apply zL rfl
 . conv=>lhs;whnf
 . conv=>lhs;whnf
 . conv=>lhs;whnf;arg 2;whnf
|refine zD ?_
|refine ⟨_,by conv=>lhs;whnf;arg 2;whnf,?_⟩;conv=>rhs;whnf
|exact trivial
|intro hg)
 all_goals
  clear hn he
  refine congrArg (fun b=>V.c (.bool b)) ?_
  simp only [hT] at *
  simp_all
theorem le16 (n:Nat):decide ((n:Int)<=16)=decide (n<=16):=decide_eq_decide.2 (by omega)
noncomputable def HargsF (l:List D) (i:Nat):Vst 29:=stS 29 [(0,.sl 86 l),(3,.c (.int .i64 (i:Int)))] []
theorem zLZ (l:List D) (hw:bulkL l<=1000000000):AC EN Tryz.prog 214 [.sl 86 l] (.c (.bool (argsR l))):=by
 have hl:=zAM l
 have hR:argsR l=(allI argR l l.length 0&&decide (l.length<=16)):=by rw [zCN,Bool.and_comm];rfl
 generalize argsR l=R at hR |-
 refine zG 29 Tryz.func214 rfl rfl rfl rfl ?_
 intro s w he
 repeat' (first
|refine zB ?_
|refine zC ?_
|refine zI ?_
|apply aw_1
 conv=>whnf
 refine ⟨?_,trivial⟩
|apply s_1
 conv=>whnf;arg 1;arg 4;arg 3;whnf
 refine ⟨?_,?_⟩
|exact trivial)
 refine zi (fun j st => ∃ i,i+j=l.length/\R=(allI argR l j i&&decide (l.length<=16))/\Sub (cx EN Tryz.prog s w he) st (HargsF l i)) l.length ⟨0,by omega,hR,Sub.live ⟨rfl,rfl,trivial⟩ trivial⟩ ?_
 clear hR
 rintro j st ⟨i,hij,hR,hs2⟩
 refine zf hs2 ?_
 clear hs2
 by_cases hi:i<l.length
 . obtain ⟨j,rfl⟩ : ∃ q,j=q+1:=⟨j-1,by omega⟩
   have f1:decide ((i:Int)<(l.length:Nat))=true:=decide_eq_true (by omega)
   have hR':R=(argR (gD l i)&&allI argR l j (i+1)&&decide (l.length<=16)):=hR
   clear hR
   have b0:=zu hi
   have b1:=zW (gD l i)
   have q0:=wD_f (gD l i) 0;have q0':=zy ((gD l i).f 0)
   have q1:=wD_f (gD l i) 1;have q1':=zW ((gD l i).f 1)
   have h1:=zAa ((gD l i).f 0).s (by omega)
   have h2:=litF_ac ((gD l i).f 1) (by omega)
   repeat' (first
|apply zM
 . conv=>lhs;whnf
 . assumption
|refine zB ?_
|refine zC ?_
|refine zI ?_
|refine zY ?_
|apply aw_1
 conv=>whnf
 refine ⟨?_,trivial⟩
|apply ze rfl rfl
 . conv=>lhs;whnf
 . conv=>lhs;whnf
 . first | exact bT1 ‹_› | exact bT2 ‹_›
|apply zZ rfl rfl
 . conv=>lhs;whnf
 . conv=>lhs;whnf
 . first | exact bF1 ‹_› | exact bF2 ‹_›
|apply s_1
 conv=>whnf;arg 1;arg 4;arg 3;whnf
 refine ⟨?_,?_⟩
|apply zd rfl
 . conv=>lhs;whnf
 . conv=>lhs;whnf
 . first | exact h1 | exact h2
|apply zF rfl
 . conv=>lhs;whnf
 . conv=>lhs;whnf
 . first | rfl | assumption
 . conv=>lhs;whnf;arg 2;whnf
|apply zm rfl
 . conv=>lhs;whnf
 . conv=>lhs;whnf
 . first | rfl | assumption
 . conv=>lhs;whnf
 . first | exact h1 | exact h2
|apply zo rfl
 . conv=>lhs;whnf
 . conv=>lhs;whnf
 . first | rfl | assumption
|apply zL rfl
 . conv=>lhs;whnf
 . conv=>lhs;whnf
 . conv=>lhs;whnf;arg 2;whnf
|refine zV (by conv=>lhs;whnf) ?_ ?_<;>intro hb
|refine zO ?_
|refine zT ?_
|refine zAC ?_
|refine zD ?_
|refine ⟨_,by conv=>lhs;whnf;arg 2;whnf,?_⟩;conv=>rhs;whnf
|exact trivial
|intro hg)
   all_goals first
    |exact za (by omega)
    |exact zBL hi
    |(have e:argR (gD l i)=false:=by
       clear hR' he
       unfold argR
       simp_all
      rw [hR',e];rfl)
    |(have e:argR (gD l i)=true:=by
       clear hR' he
       unfold argR
       simp_all
      exact zE (j':=j) (by omega) ⟨i+1,by omega,by rw [hR',e,Bool.true_and],Sub.live ⟨rfl,rfl,trivial⟩ trivial⟩)
    |skip
 . obtain rfl:j=0:=by omega
   have f1:decide ((i:Int)<(l.length:Nat))=false:=decide_eq_false (by omega)
   repeat' (first
|apply zH
 . conv=>lhs;whnf
 . assumption
|refine zB ?_
|refine zC ?_
|refine zI ?_
|apply aw_1
 conv=>whnf
 refine ⟨?_,trivial⟩
|apply s_1
 conv=>whnf;arg 1;arg 4;arg 3;whnf
 refine ⟨?_,?_⟩
|refine zN ?_
|refine zJ rfl ?_
|refine zK ?_
|refine zD ?_
|refine ⟨_,by conv=>lhs;whnf;arg 2;whnf,?_⟩;conv=>rhs;whnf
|exact trivial)
   rw [hR,allI,Bool.true_and,le16]
noncomputable def HdirsF (l:List D) (i:Nat):Vst 29:=stS 29 [(0,.sl 150 l),(3,.c (.int .i64 (i:Int)))] []
theorem dirsF_ac (l:List D) (hw:bulkL l<=1000000000):AC EN Tryz.prog 213 [.sl 150 l] (.c (.bool (dirsR l))):=by
 have hl:=zAM l
 have hR:dirsR l=(allI dirR l l.length 0&&decide (l.length<=16)):=by rw [zCN,Bool.and_comm];rfl
 generalize dirsR l=R at hR |-
 refine zG 29 Tryz.func213 rfl rfl rfl rfl ?_
 intro s w he
 repeat' (first
|refine zB ?_
|refine zC ?_
|refine zI ?_
|apply aw_1
 conv=>whnf
 refine ⟨?_,trivial⟩
|apply s_1
 conv=>whnf;arg 1;arg 4;arg 3;whnf
 refine ⟨?_,?_⟩
|exact trivial)
 refine zi (fun j st => ∃ i,i+j=l.length/\R=(allI dirR l j i&&decide (l.length<=16))/\Sub (cx EN Tryz.prog s w he) st (HdirsF l i)) l.length ⟨0,by omega,hR,Sub.live ⟨rfl,rfl,trivial⟩ trivial⟩ ?_
 clear hR
 rintro j st ⟨i,hij,hR,hs2⟩
 refine zf hs2 ?_
 clear hs2
 by_cases hi:i<l.length
 . obtain ⟨j,rfl⟩ : ∃ q,j=q+1:=⟨j-1,by omega⟩
   have f1:decide ((i:Int)<(l.length:Nat))=true:=decide_eq_true (by omega)
   have hR':R=(dirR (gD l i)&&allI dirR l j (i+1)&&decide (l.length<=16)):=hR
   clear hR
   have b0:=zu hi
   have b1:=zW (gD l i)
   have q0:=wD_f (gD l i) 0;have q0':=zy ((gD l i).f 0)
   have q1:=wD_f (gD l i) 1;have q1':=zr ((gD l i).f 1)
   have h1:=zAa ((gD l i).f 0).s (by omega)
   have h2:=zLZ ((gD l i).f 1).l (by omega)
   repeat' (first
|apply zM
 . conv=>lhs;whnf
 . assumption
|refine zB ?_
|refine zC ?_
|refine zI ?_
|refine zY ?_
|apply aw_1
 conv=>whnf
 refine ⟨?_,trivial⟩
|apply ze rfl rfl
 . conv=>lhs;whnf
 . conv=>lhs;whnf
 . first | exact bT1 ‹_› | exact bT2 ‹_›
|apply zZ rfl rfl
 . conv=>lhs;whnf
 . conv=>lhs;whnf
 . first | exact bF1 ‹_› | exact bF2 ‹_›
|apply s_1
 conv=>whnf;arg 1;arg 4;arg 3;whnf
 refine ⟨?_,?_⟩
|apply zd rfl
 . conv=>lhs;whnf
 . conv=>lhs;whnf
 . first | exact h1 | exact h2
|apply zF rfl
 . conv=>lhs;whnf
 . conv=>lhs;whnf
 . first | rfl | assumption
 . conv=>lhs;whnf;arg 2;whnf
|apply zm rfl
 . conv=>lhs;whnf
 . conv=>lhs;whnf
 . first | rfl | assumption
 . conv=>lhs;whnf
 . first | exact h1 | exact h2
|apply zo rfl
 . conv=>lhs;whnf
 . conv=>lhs;whnf
 . first | rfl | assumption
|apply zL rfl
 . conv=>lhs;whnf
 . conv=>lhs;whnf
 . conv=>lhs;whnf;arg 2;whnf
|refine zV (by conv=>lhs;whnf) ?_ ?_<;>intro hb
|refine zO ?_
|refine zT ?_
|refine zAC ?_
|refine zD ?_
|refine ⟨_,by conv=>lhs;whnf;arg 2;whnf,?_⟩;conv=>rhs;whnf
|exact trivial
|intro hg)
   all_goals first
    |exact za (by omega)
    |exact zBL hi
    |(have e:dirR (gD l i)=false:=by
       clear hR' he
       unfold dirR
       simp_all
      rw [hR',e];rfl)
    |(have e:dirR (gD l i)=true:=by
       clear hR' he
       unfold dirR
       simp_all
      exact zE (j':=j) (by omega) ⟨i+1,by omega,by rw [hR',e,Bool.true_and],Sub.live ⟨rfl,rfl,trivial⟩ trivial⟩)
    |skip
 . obtain rfl:j=0:=by omega
   have f1:decide ((i:Int)<(l.length:Nat))=false:=decide_eq_false (by omega)
   repeat' (first
|apply zH
 . conv=>lhs;whnf
 . assumption
|refine zB ?_
|refine zC ?_
|refine zI ?_
|apply aw_1
 conv=>whnf
 refine ⟨?_,trivial⟩
|apply s_1
 conv=>whnf;arg 1;arg 4;arg 3;whnf
 refine ⟨?_,?_⟩
|refine zN ?_
|refine zJ rfl ?_
|refine zK ?_
|refine zD ?_
|refine ⟨_,by conv=>lhs;whnf;arg 2;whnf,?_⟩;conv=>rhs;whnf
|exact trivial)
   rw [hR,allI,Bool.true_and,le16]
noncomputable def HCf (d:D) (i:Nat):Vst 21:=stS 21 [(1,.bx 1 0),(3,.c (.int .i64 (i:Int)))] [(1,.box 84 (cellsV Tryz.prog 12 84 d))]
theorem zIo : ∀ (k:Nat) (d:D),Dp k d->bulkD d<=1000000000->AC EN Tryz.prog 135 [.agg (cellsV Tryz.prog 12 84 d)] (.c (.bool (bareR k d)))
 |0,_,h,_=>h.elim
 |k+1,d,h,hw=>by
  have hin:=bk_in hw
  have hl:=hin.items
  have ih:=fun i (hi:i<(d.f 3).l.length)=>zIo k (gD (d.f 3).l i) (h i hi) (by have:=hin.at_ i hi;omega)
  have hR:bareR (k+1) d=(allI (bareR k) (d.f 3).l (d.f 3).l.length 0 && !((d.f 0).n==7)):=by rw [zCN,Bool.and_comm];rfl
  generalize bareR (k+1) d=R at hR |-
  refine zG 21 Tryz.func135 rfl rfl rfl rfl ?_
  intro s w he
  repeat' (first
|refine zB ?_
|refine zC ?_
|refine zI ?_
|apply aw_1
 conv=>whnf
 refine ⟨?_,trivial⟩
|apply s_1
 conv=>whnf;arg 1;arg 4;arg 3;whnf
 refine ⟨?_,?_⟩
|apply zAE rfl rfl rfl rfl
 . conv=>lhs;whnf;arg 1;whnf
 . rfl
|exact trivial)
  refine zi (fun j st => ∃ i,i+j=(d.f 3).l.length/\R=(allI (bareR k) (d.f 3).l j i && !((d.f 0).n==7))/\Sub (cx EN Tryz.prog s w he) st (HCf d i)) (d.f 3).l.length ⟨0,by omega,hR,Sub.live ⟨rfl,rfl,trivial⟩ ⟨rfl,trivial⟩⟩ ?_
  clear hR
  rintro j st ⟨i,hij,hR,hs2⟩
  refine zf hs2 ?_
  clear hs2
  by_cases hi:i<(d.f 3).l.length
  . obtain ⟨j,rfl⟩ : ∃ q,j=q+1:=⟨j-1,by omega⟩
    have f1:decide ((i:Int)<((d.f 3).l.length:Nat))=true:=decide_eq_true (by omega)
    have hR':R=(bareR k (gD (d.f 3).l i)&&allI (bareR k) (d.f 3).l j (i+1) && !((d.f 0).n==7)):=hR
    have ih2:=ih i hi
    repeat' (first
|apply zM
 . conv=>lhs;whnf
 . assumption
|refine zB ?_
|refine zC ?_
|refine zI ?_
|refine zY ?_
|apply aw_1
 conv=>whnf
 refine ⟨?_,trivial⟩
|apply s_1
 conv=>whnf;arg 1;arg 4;arg 3;whnf
 refine ⟨?_,?_⟩
|apply zd rfl
 . conv=>lhs;whnf
 . conv=>lhs;whnf
 . first | exact ih2
|refine zV (by conv=>lhs;whnf) ?_ ?_<;>intro hb
|refine zO ?_
|refine zT ?_
|refine zAC ?_
|refine zD ?_
|refine ⟨_,by conv=>lhs;whnf;arg 2;whnf,?_⟩;conv=>rhs;whnf
|exact trivial)
    all_goals first
     |exact za (by omega)
     |exact zBL hi
     |(have e:bareR k (gD (d.f 3).l i)=false:=by simpa using (by assumption:(!bareR k (gD (d.f 3).l i))=true)
       rw [hR',e];rfl)
     |(have e:bareR k (gD (d.f 3).l i)=true:=by simpa using (by assumption:(!bareR k (gD (d.f 3).l i))=false)
       exact zE (j':=j) (by omega) ⟨i+1,by omega,by rw [hR',e,Bool.true_and],Sub.live ⟨rfl,rfl,trivial⟩ ⟨rfl,trivial⟩⟩)
     |skip
  . obtain rfl:j=0:=by omega
    have f1:decide ((i:Int)<((d.f 3).l.length:Nat))=false:=decide_eq_false (by omega)
    repeat' (first
|apply zH
 . conv=>lhs;whnf
 . assumption
|refine zB ?_
|refine zC ?_
|refine zI ?_
|apply aw_1
 conv=>whnf
 refine ⟨?_,trivial⟩
|apply s_1
 conv=>whnf;arg 1;arg 4;arg 3;whnf
 refine ⟨?_,?_⟩
|refine zN ?_
|refine zJ rfl ?_
|refine zK ?_
|refine zD ?_
|refine ⟨_,by conv=>lhs;whnf;arg 2;whnf,?_⟩;conv=>rhs;whnf
|exact trivial)
    rw [hR,allI,Bool.true_and];rfl
noncomputable def HTf (d:D) (i:Nat):Vst 54:=stS 54 [(1,.bx 1 0),(3,.c (.int .i64 (i:Int)))] [(1,.box 71 (cellsV Tryz.prog 12 71 d))]
theorem refF_ac (d:D) (hs:(d.f 0).s.size<=1000000000) (hl:(d.f 1).l.length<=1000000000):AC EN Tryz.prog 133 [.agg (cellsV Tryz.prog 12 71 d)] (.c (.bool (refR d))):=by
 have hn:=zAa (d.f 0).s hs
 have hR:refR d=(nameB (d.f 0).s&&decide ((d.f 1).l.length<=24)&&wrapsI (d.f 1).l (d.f 1).l.length 0):=by rw [zJ5];rfl
 generalize refR d=R at hR |-
 have e:decide (((d.f 1).l.length:Int)>24) = !decide ((d.f 1).l.length<=24):=by
  rw [Bool.eq_iff_iff]
  simp only [decide_eq_true_eq,Bool.not_eq_true',decide_eq_false_iff_not]
  omega
 refine zG 54 Tryz.func133 rfl rfl rfl rfl ?_
 intro s w he
 repeat' (first
|refine zB ?_
|refine zC ?_
|refine zI ?_
|apply aw_1
 conv=>whnf
 refine ⟨?_,trivial⟩
|apply ze rfl rfl
 . conv=>lhs;whnf
 . conv=>lhs;whnf
 . first | exact bT1 ‹_› | exact bT2 ‹_›
|apply zZ rfl rfl
 . conv=>lhs;whnf
 . conv=>lhs;whnf
 . first | exact bF1 ‹_› | exact bF2 ‹_›
|apply s_1
 conv=>whnf;arg 1;arg 4;arg 3;whnf
 refine ⟨?_,?_⟩
|apply zd rfl
 . conv=>lhs;whnf
 . conv=>lhs;whnf
 . first | exact hn
|apply zAE rfl rfl rfl rfl
 . conv=>lhs;whnf;arg 1;whnf
 . rfl
|apply zF rfl
 . conv=>lhs;whnf
 . conv=>lhs;whnf
 . first | rfl | assumption
 . conv=>lhs;whnf;arg 2;whnf
|apply zo rfl
 . conv=>lhs;whnf
 . conv=>lhs;whnf
 . first | rfl | assumption
|apply zL rfl
 . conv=>lhs;whnf
 . conv=>lhs;whnf
 . conv=>lhs;whnf;arg 2;whnf
|refine zV (by conv=>lhs;whnf) ?_ ?_<;>intro hb
|refine zO ?_
|refine zD ?_
|refine ⟨_,by conv=>lhs;whnf;arg 2;whnf,?_⟩;conv=>rhs;whnf
|exact trivial
|intro hg)
 . simp_all
   intros
   omega
 . have hR2:R=wrapsI (d.f 1).l (d.f 1).l.length 0:=by simp_all
   clear hR hn
   refine zi (fun j st => ∃ i,i+j=(d.f 1).l.length/\R=wrapsI (d.f 1).l j i/\Sub (cx EN Tryz.prog s w he) st (HTf d i)) (d.f 1).l.length ⟨0,by omega,hR2,Sub.live ⟨rfl,rfl,trivial⟩ ⟨rfl,trivial⟩⟩ ?_
   clear hR2 hg hb e
   rintro j st ⟨i,hij,hR,hs2⟩
   refine zf hs2 ?_
   clear hs2
   by_cases hi:i<(d.f 1).l.length
   . obtain ⟨j,rfl⟩ : ∃ q,j=q+1:=⟨j-1,by omega⟩
     have f1:decide ((i:Int)<((d.f 1).l.length:Nat))=true:=decide_eq_true (by omega)
     have e1:decide ((i:Int)>0)=decide (0<i):=decide_eq_decide.2 (by omega)
     have eT:((i:Int)-1).toNat=i-1:=by omega
     have hR':R=(((gD (d.f (0+1)).l (i:Int).toNat).n==1||(gD (d.f (0+1)).l (i:Int).toNat).n==2) && !((gD (d.f (0+1)).l (i:Int).toNat).n==1&&decide ((i:Int)>0)&&((gD (d.f (0+1)).l ((i:Int)-1).toNat).n==(gD (d.f (0+1)).l (i:Int).toNat).n))&&wrapsI (d.f 1).l j (i+1)):=by
      rw [hR,e1,eT,Int.toNat_natCast];rfl
     clear hR e1
     repeat' (first
|apply zM
 . conv=>lhs;whnf
 . assumption
|refine zB ?_
|refine zC ?_
|refine zI ?_
|refine zY ?_
|apply aw_1
 conv=>whnf
 refine ⟨?_,trivial⟩
|apply ze rfl rfl
 . conv=>lhs;whnf
 . conv=>lhs;whnf
 . first | exact bT1 ‹_› | exact bT2 ‹_›
|apply zZ rfl rfl
 . conv=>lhs;whnf
 . conv=>lhs;whnf
 . first | exact bF1 ‹_› | exact bF2 ‹_›
|apply s_1
 conv=>whnf;arg 1;arg 4;arg 3;whnf
 refine ⟨?_,?_⟩
|apply zF rfl
 . conv=>lhs;whnf
 . conv=>lhs;whnf
 . first | rfl | assumption
 . conv=>lhs;whnf;arg 2;whnf
|apply zo rfl
 . conv=>lhs;whnf
 . conv=>lhs;whnf
 . first | rfl | assumption
|apply zL rfl
 . conv=>lhs;whnf
 . conv=>lhs;whnf
 . conv=>lhs;whnf;arg 2;whnf
|refine zV (by conv=>lhs;whnf) ?_ ?_<;>intro hb
|refine zO ?_
|refine zT ?_
|refine zAC ?_
|refine zD ?_
|refine ⟨_,by conv=>lhs;whnf;arg 2;whnf,?_⟩;conv=>rhs;whnf
|exact trivial
|intro hg)
     all_goals first
      |exact za (by omega)
      |exact zBL hi
      |(have h0:(i:Int)>0:=by simp_all
        exact (show 0<=(i:Int)-1/\(i:Int)-1<(((d.f 1).l.length:Nat):Int) from ⟨by omega,by omega⟩))
      |(have h0:(i:Int)>0:=by simp_all
        exact za (by omega))
      |(have hN:R=wrapsI (d.f 1).l j (i+1):=by simp_all
        exact zE (j':=j) (by omega) ⟨i+1,by omega,hN,Sub.live ⟨rfl,rfl,trivial⟩ ⟨rfl,trivial⟩⟩)
      |skip
     all_goals
      refine congrArg (fun b=>V.c (.bool b)) ?_
      clear eT f1 hi hij he
      simp_all
   . obtain rfl:j=0:=by omega
     have f1:decide ((i:Int)<((d.f 1).l.length:Nat))=false:=decide_eq_false (by omega)
     repeat' (first
|apply zH
 . conv=>lhs;whnf
 . assumption
|refine zB ?_
|refine zC ?_
|refine zI ?_
|apply aw_1
 conv=>whnf
 refine ⟨?_,trivial⟩
|apply s_1
 conv=>whnf;arg 1;arg 4;arg 3;whnf
 refine ⟨?_,?_⟩
|refine zN ?_
|refine zJ rfl ?_
|refine zK ?_
|refine zD ?_
|refine ⟨_,by conv=>lhs;whnf;arg 2;whnf,?_⟩;conv=>rhs;whnf
|exact trivial)
     rw [hR];rfl
 . simp_all
theorem selsR_zero (p:D->Bool) (l:List D) (lv:Nat):selsR p l 0 lv=(decide (l.length=0)||selsR p l 1 lv):=by
 unfold selsR
 cases l with
 |nil=>simp
 |cons x r=>simp
theorem selsR_one (p:D->Bool) (l:List D) (lv:Nat):selsR p l 1 lv=(!decide (l.length=0)&&decide (l.length<=64)&&decide (lv<=24)&&allI p l l.length 0):=by
 rw [zCN]
 unfold selsR
 cases l with
 |nil=>simp
 |cons x r=>simp
noncomputable def HSe (l:List D) (lv i:Nat):Vst 31:=stS 31 [(0,.sl 76 l),(1,.c (.int .i64 (lv:Int))),(5,.c (.int .i64 (i:Int)))] []
theorem zKP (l:List D) (lv:Nat) (p:D->Bool) (hw:bulkL l<=1000000000) (hc : ∀ i,i<l.length->AC EN Tryz.prog 136 [.agg (cellsV Tryz.prog 12 76 (gD l i)),.c (.int .i64 (lv:Int))] (.c (.bool (p (gD l i))))) :
 AC EN Tryz.prog 68 [.sl 76 l,.c (.int .i64 (lv:Int))] (.c (.bool (selsR p l 1 lv))):=by
 have hl:=zAM l
 have e1:((l.length:Int)==0)=decide (l.length=0):=by rw [Bool.eq_iff_iff];simp only [beq_iff_eq,decide_eq_true_eq];omega
 have e2:decide ((l.length:Int)>64) = !decide (l.length<=64):=by rw [Bool.eq_iff_iff];simp;omega
 have e4:decide ((lv:Int)>24) = !decide (lv<=24):=by rw [Bool.eq_iff_iff];simp;omega
 have hR:=selsR_one p l lv
 generalize selsR p l 1 lv=R at hR |-
 refine zG 31 Tryz.func68 rfl rfl rfl rfl ?_
 intro s w he
 by_cases hok:(!decide (l.length=0)&&decide (l.length<=64)&&decide (lv<=24))=true
 . have hR2:R=allI p l l.length 0:=by rw [hR,hok,Bool.true_and]
   simp only [Bool.and_eq_true,Bool.not_eq_true',decide_eq_false_iff_not,decide_eq_true_eq] at hok
   have f1:((l.length:Int)==0)=false:=by rw [e1];exact decide_eq_false hok.1.1
   have f2:decide ((l.length:Int)>64)=false:=decide_eq_false (by omega)
   have f3:decide ((lv:Int)>24)=false:=decide_eq_false (by omega)
   have g1:(((l.length:Int)==0)==false)=true:=by rw [f1];rfl
   have g2:(decide ((l.length:Int)>64)==false)=true:=by rw [f2];rfl
   have k1:(((l.length:Int)==0)==false)=false->False:=fun h=>by rw [g1] at h;cases h
   have k2:(decide ((l.length:Int)>64)==false)=false->False:=fun h=>by rw [g2] at h;cases h
   clear hR e1 e2 e4
   repeat' (first
|apply zH
 . conv=>lhs;whnf
 . assumption
|refine zB ?_
|refine zC ?_
|refine zI ?_
|apply aw_1
 conv=>whnf
 refine ⟨?_,trivial⟩
|apply zZ rfl rfl
 . conv=>lhs;whnf
 . conv=>lhs;whnf
 . first | exact bF1 ‹_› | exact bF2 ‹_›
|apply s_1
 conv=>whnf;arg 1;arg 4;arg 3;whnf
 refine ⟨?_,?_⟩
|apply zF rfl
 . conv=>lhs;whnf
 . conv=>lhs;whnf
 . first | rfl | assumption
 . conv=>lhs;whnf;arg 2;whnf
|exact trivial)
   refine zi (fun j st => ∃ i,i+j=l.length/\R=allI p l j i/\Sub (cx EN Tryz.prog s w he) st (HSe l lv i)) l.length ⟨0,by omega,hR2,Sub.live ⟨rfl,rfl,rfl,trivial⟩ trivial⟩ ?_
   clear hR2 f1 f2 f3 g1 g2 k1 k2
   rintro j st ⟨i,hij,hR,hs2⟩
   refine zf hs2 ?_
   clear hs2
   by_cases hi:i<l.length
   . obtain ⟨j,rfl⟩ : ∃ q,j=q+1:=⟨j-1,by omega⟩
     have f1:decide ((i:Int)<(l.length:Nat))=true:=decide_eq_true (by omega)
     have hR':R=(p (gD l i)&&allI p l j (i+1)):=hR
     have h1:=hc i hi
     repeat' (first
|apply zM
 . conv=>lhs;whnf
 . assumption
|refine zB ?_
|refine zC ?_
|refine zI ?_
|refine zY ?_
|apply aw_1
 conv=>whnf
 refine ⟨?_,trivial⟩
|apply s_1
 conv=>whnf;arg 1;arg 4;arg 3;whnf
 refine ⟨?_,?_⟩
|apply zd rfl
 . conv=>lhs;whnf
 . conv=>lhs;whnf
 . first | exact h1
|refine zV (by conv=>lhs;whnf) ?_ ?_<;>intro hb
|refine zO ?_
|refine zT ?_
|refine zAC ?_
|refine zD ?_
|refine ⟨_,by conv=>lhs;whnf;arg 2;whnf,?_⟩;conv=>rhs;whnf
|exact trivial)
     all_goals first
      |exact za (by omega)
      |exact zBL hi
      |(have e:p (gD l i)=false:=by simpa using (by assumption:(!p (gD l i))=true)
        rw [hR',e];rfl)
      |(have e:p (gD l i)=true:=by simpa using (by assumption:(!p (gD l i))=false)
        exact zE (j':=j) (by omega) ⟨i+1,by omega,by rw [hR',e,Bool.true_and],Sub.live ⟨rfl,rfl,rfl,trivial⟩ trivial⟩)
      |skip
   . obtain rfl:j=0:=by omega
     have f1:decide ((i:Int)<(l.length:Nat))=false:=decide_eq_false (by omega)
     repeat' (first
|apply zH
 . conv=>lhs;whnf
 . assumption
|refine zB ?_
|refine zC ?_
|refine zI ?_
|apply aw_1
 conv=>whnf
 refine ⟨?_,trivial⟩
|apply s_1
 conv=>whnf;arg 1;arg 4;arg 3;whnf
 refine ⟨?_,?_⟩
|refine zN ?_
|refine zJ rfl ?_
|refine zK ?_
|refine zD ?_
|refine ⟨_,by conv=>lhs;whnf;arg 2;whnf,?_⟩;conv=>rhs;whnf
|exact trivial)
     rw [hR];rfl
 . have hok:(!decide (l.length=0)&&decide (l.length<=64)&&decide (lv<=24))=false:=by simpa using hok
   have hR2:R=false:=by rw [hR,hok,Bool.false_and]
   subst hR2
   clear hR
   have K : ∀ {x y z:Bool},((l.length:Int)==0)=x->decide ((l.length:Int)>64)=y->decide ((lv:Int)>24)=z->x=false->y=false->z=false->False:=fun h1 h2 h3 h4 h5 h6=>by
    rw [e1] at h1;rw [e2] at h2;rw [e4] at h3
    rw [h4] at h1;rw [h5] at h2;rw [h6] at h3
    simp only [h1,Bool.not_eq_false'] at h2 h3
    rw [h1,h2,h3] at hok
    cases hok
   by_cases f1:((l.length:Int)==0)=true
   . have k1:(((l.length:Int)==0)==false)=true->False:=fun h=>by rw [f1] at h;cases h
     repeat' (first
|exact (k1 ‹_›).elim
|refine zB ?_
|refine zC ?_
|refine zI ?_
|apply aw_1
 conv=>whnf
 refine ⟨?_,trivial⟩
|apply ze rfl rfl
 . conv=>lhs;whnf
 . conv=>lhs;whnf
 . first | exact bT1 ‹_› | exact bT2 ‹_›
|apply s_1
 conv=>whnf;arg 1;arg 4;arg 3;whnf
 refine ⟨?_,?_⟩
|apply zo rfl
 . conv=>lhs;whnf
 . conv=>lhs;whnf
 . first | rfl | assumption
|apply zL rfl
 . conv=>lhs;whnf
 . conv=>lhs;whnf
 . conv=>lhs;whnf;arg 2;whnf
|refine zO ?_
|refine zD ?_
|refine ⟨_,by conv=>lhs;whnf;arg 2;whnf,?_⟩;conv=>rhs;whnf
|exact trivial
|intro hg)
   . have f1:((l.length:Int)==0)=false:=by simpa using f1
     have g1:(((l.length:Int)==0)==false)=true:=by rw [f1];rfl
     have k1:(((l.length:Int)==0)==false)=false->False:=fun h=>by rw [g1] at h;cases h
     by_cases f2:decide ((l.length:Int)>64)=true
     . have k2:(decide ((l.length:Int)>64)==false)=true->False:=fun h=>by rw [f2] at h;cases h
       repeat' (first
|exact (k2 ‹_›).elim
|refine zB ?_
|refine zC ?_
|refine zI ?_
|apply aw_1
 conv=>whnf
 refine ⟨?_,trivial⟩
|apply ze rfl rfl
 . conv=>lhs;whnf
 . conv=>lhs;whnf
 . first | exact bT1 ‹_› | exact bT2 ‹_›
|apply zZ rfl rfl
 . conv=>lhs;whnf
 . conv=>lhs;whnf
 . first | exact bF1 ‹_› | exact bF2 ‹_›
|apply s_1
 conv=>whnf;arg 1;arg 4;arg 3;whnf
 refine ⟨?_,?_⟩
|apply zF rfl
 . conv=>lhs;whnf
 . conv=>lhs;whnf
 . first | rfl | assumption
 . conv=>lhs;whnf;arg 2;whnf
|apply zo rfl
 . conv=>lhs;whnf
 . conv=>lhs;whnf
 . first | rfl | assumption
|apply zL rfl
 . conv=>lhs;whnf
 . conv=>lhs;whnf
 . conv=>lhs;whnf;arg 2;whnf
|refine zO ?_
|refine zD ?_
|refine ⟨_,by conv=>lhs;whnf;arg 2;whnf,?_⟩;conv=>rhs;whnf
|exact trivial
|intro hg)
     . have f2:decide ((l.length:Int)>64)=false:=by simpa using f2
       have g2:(decide ((l.length:Int)>64)==false)=true:=by rw [f2];rfl
       have k2:(decide ((l.length:Int)>64)==false)=false->False:=fun h=>by rw [g2] at h;cases h
       have f3:decide ((lv:Int)>24)=true:=by
        cases f3:decide ((lv:Int)>24) with
        |true=>rfl
        |false=>exact (K f1 f2 f3 rfl rfl rfl).elim
       repeat' (first
|apply zM
 . conv=>lhs;whnf
 . assumption
|refine zB ?_
|refine zC ?_
|refine zI ?_
|apply aw_1
 conv=>whnf
 refine ⟨?_,trivial⟩
|apply zZ rfl rfl
 . conv=>lhs;whnf
 . conv=>lhs;whnf
 . first | exact bF1 ‹_› | exact bF2 ‹_›
|apply s_1
 conv=>whnf;arg 1;arg 4;arg 3;whnf
 refine ⟨?_,?_⟩
|apply zF rfl
 . conv=>lhs;whnf
 . conv=>lhs;whnf
 . first | rfl | assumption
 . conv=>lhs;whnf;arg 2;whnf
|refine zO ?_
|refine zD ?_
|refine ⟨_,by conv=>lhs;whnf;arg 2;whnf,?_⟩;conv=>rhs;whnf
|exact trivial)
theorem selF_ac : ∀ (k lv:Nat) (d:D),bulkD d<=k->k<=1000000000->lv+k<=2000000000->AC EN Tryz.prog 136 [.agg (cellsV Tryz.prog 12 76 d),.c (.int .i64 (lv:Int))] (.c (.bool (selR k lv d)))
 |0,_,d,h,_,_=>by have:=zAj d;omega
 |k+1,lv,d,h,hk,hlv=>by
  have hB:=sel_b (B:=1000000000) (d:=d) (by omega)
  have h1:=zAa (d.f 1).s hB.s1
  have h2:=zAa (d.f 2).s hB.s2
  have h3:=zAa (d.f 3).s hB.s3
  have h4:=zLZ (d.f 4).l hB.l4
  have h5:=dirsF_ac (d.f 5).l hB.l5
  have h6:=zHz (d.f 2).s hB.s2
  have hs1:=zKP (d.f 6).l (lv+1) (selR k (lv+1)) hB.l6B fun i hi=>selF_ac k (lv+1) _ (by have:=zu hi;have:=hB.l6;omega) (by omega) (by omega)
  have hs0:=selsR_zero (selR k (lv+1)) (d.f 6).l (lv+1)
  have hz4:(((d.f 4).l.length:Int)==0)=decide ((d.f 4).l.length=0):=by rw [Bool.eq_iff_iff];simp
  have hz6:(((d.f 6).l.length:Int)==0)=decide ((d.f 6).l.length=0):=by rw [Bool.eq_iff_iff];simp
  have n1:=zFI (d.f 1).s
  have n2:=zFI (d.f 2).s
  have n3:=zFI (d.f 3).s
  have e:cellsV Tryz.prog 12 76 d=[.c (.int .i64 (d.f 0).n),.c (.string (d.f 1).s),.c (.string (d.f 2).s),.c (.string (d.f 3).s),.sl 86 (d.f 4).l,.sl 150 (d.f 5).l,.sl 76 (d.f 6).l]:=rfl
  unfold selR
  rw [e,hs0]
  by_cases k1:(d.f 0).n=1
  . rw [if_pos k1,k1]
    refine zG 110 Tryz.func136 rfl rfl rfl rfl ?_
    intro s w he
    repeat' (first
|apply zAY rfl rfl rfl
 . conv=>lhs;whnf
 . first | rfl | assumption
 . conv=>lhs;whnf
 . first | exact bT1 ‹_› | exact bT2 ‹_› | rfl
|apply zAZ rfl rfl rfl
 . conv=>lhs;whnf
 . first | rfl | assumption
 . conv=>lhs;whnf
 . first | exact bF1 ‹_› | exact bF2 ‹_› | rfl
|refine zB ?_
|refine zC ?_
|refine zI ?_
|apply aw_1
 conv=>whnf
 refine ⟨?_,trivial⟩
|apply ze rfl rfl
 . conv=>lhs;whnf
 . conv=>lhs;whnf
 . first | exact bT1 ‹_› | exact bT2 ‹_›
|apply zZ rfl rfl
 . conv=>lhs;whnf
 . conv=>lhs;whnf
 . first | exact bF1 ‹_› | exact bF2 ‹_›
|apply s_1
 conv=>whnf;arg 1;arg 4;arg 3;whnf
 refine ⟨?_,?_⟩
|apply zd rfl
 . conv=>lhs;whnf
 . conv=>lhs;whnf
 . first | exact h1 | exact h2 | exact h4 | exact h5 | exact hs1
|apply zAE rfl rfl rfl rfl
 . conv=>lhs;whnf;arg 1;whnf
 . rfl
|apply zF rfl
 . conv=>lhs;whnf
 . conv=>lhs;whnf
 . first | rfl | assumption
 . conv=>lhs;whnf;arg 2;whnf
|apply zm rfl
 . conv=>lhs;whnf
 . conv=>lhs;whnf
 . first | rfl | assumption
 . conv=>lhs;whnf
 . first | exact h1 | exact h2 | exact h4 | exact h5 | exact hs1
|apply zo rfl
 . conv=>lhs;whnf
 . conv=>lhs;whnf
 . first | rfl | assumption
|apply zL rfl
 . conv=>lhs;whnf
 . conv=>lhs;whnf
 . conv=>lhs;whnf;arg 2;whnf
|refine zV (by conv=>lhs;whnf) ?_ ?_<;>intro hb
|refine zO ?_
|refine zT ?_
|refine zD ?_
|refine ⟨_,by conv=>lhs;whnf;arg 2;whnf,?_⟩;conv=>rhs;whnf
|exact trivial
|intro hg)
    all_goals first
     |exact za (by omega)
     |(clear h1 h2 h3 h4 h5 h6 hs0 hs1 he e hB
       refine congrArg (fun b=>V.c (.bool b)) ?_
       simp only [n1,n2,n3,hz4,hz6] at *
       clear n1 n2 n3 hz4 hz6
       generalize argsR (d.f 4).l=a1 at *
       generalize dirsR (d.f 5).l=a2 at *
       generalize noneS (d.f 1).s=a3 at *
       generalize noneS (d.f 3).s=a4 at *
       generalize nameB (d.f 1).s=a5 at *
       generalize nameB (d.f 2).s=a6 at *
       generalize selsR (selR k (lv+1)) (d.f 6).l 1 (lv+1)=a7 at *
       generalize decide ((d.f 6).l.length=0)=a8 at *
       clear k1 h hk hlv
       simp_all)
  rw [if_neg k1]
  by_cases k2:(d.f 0).n=2
  . rw [if_pos k2,k2]
    refine zG 110 Tryz.func136 rfl rfl rfl rfl ?_
    intro s w he
    repeat' (first
|refine zB ?_
|refine zC ?_
|refine zI ?_
|apply aw_1
 conv=>whnf
 refine ⟨?_,trivial⟩
|apply ze rfl rfl
 . conv=>lhs;whnf
 . conv=>lhs;whnf
 . first | exact bT1 ‹_› | exact bT2 ‹_›
|apply zZ rfl rfl
 . conv=>lhs;whnf
 . conv=>lhs;whnf
 . first | exact bF1 ‹_› | exact bF2 ‹_›
|apply s_1
 conv=>whnf;arg 1;arg 4;arg 3;whnf
 refine ⟨?_,?_⟩
|apply zd rfl
 . conv=>lhs;whnf
 . conv=>lhs;whnf
 . first | exact h4 | exact h5 | exact h6
|apply zAE rfl rfl rfl rfl
 . conv=>lhs;whnf;arg 1;whnf
 . rfl
|apply zF rfl
 . conv=>lhs;whnf
 . conv=>lhs;whnf
 . first | rfl | assumption
 . conv=>lhs;whnf;arg 2;whnf
|apply zm rfl
 . conv=>lhs;whnf
 . conv=>lhs;whnf
 . first | rfl | assumption
 . conv=>lhs;whnf
 . first | exact h4 | exact h5 | exact h6
|apply zo rfl
 . conv=>lhs;whnf
 . conv=>lhs;whnf
 . first | rfl | assumption
|apply zL rfl
 . conv=>lhs;whnf
 . conv=>lhs;whnf
 . conv=>lhs;whnf;arg 2;whnf
|refine zV (by conv=>lhs;whnf) ?_ ?_<;>intro hb
|refine zO ?_
|refine zT ?_
|refine zD ?_
|refine ⟨_,by conv=>lhs;whnf;arg 2;whnf,?_⟩;conv=>rhs;whnf
|exact trivial
|intro hg)
    all_goals
     clear h1 h2 h3 h4 h5 h6 hs0 hs1 he e hB
     refine congrArg (fun b=>V.c (.bool b)) ?_
     simp only [n1,n2,n3,hz4,hz6] at *
     clear n1 n2 n3 hz4 hz6
     generalize argsR (d.f 4).l=a1 at *
     generalize dirsR (d.f 5).l=a2 at *
     generalize noneS (d.f 1).s=a3 at *
     generalize noneS (d.f 3).s=a4 at *
     generalize decide ((d.f 4).l.length=0)=a5 at *
     generalize decide ((d.f 6).l.length=0)=a6 at *
     generalize titleR (d.f 2).s=a7 at *
     clear k1 k2 h hk hlv
     simp_all
  rw [if_neg k2]
  by_cases k3:(d.f 0).n=3
  . rw [if_pos k3,k3]
    refine zG 110 Tryz.func136 rfl rfl rfl rfl ?_
    intro s w he
    repeat' (first
|apply zAY rfl rfl rfl
 . conv=>lhs;whnf
 . first | rfl | assumption
 . conv=>lhs;whnf
 . first | exact bT1 ‹_› | exact bT2 ‹_› | rfl
|apply zAZ rfl rfl rfl
 . conv=>lhs;whnf
 . first | rfl | assumption
 . conv=>lhs;whnf
 . first | exact bF1 ‹_› | exact bF2 ‹_› | rfl
|refine zB ?_
|refine zC ?_
|refine zI ?_
|apply aw_1
 conv=>whnf
 refine ⟨?_,trivial⟩
|apply ze rfl rfl
 . conv=>lhs;whnf
 . conv=>lhs;whnf
 . first | exact bT1 ‹_› | exact bT2 ‹_›
|apply zZ rfl rfl
 . conv=>lhs;whnf
 . conv=>lhs;whnf
 . first | exact bF1 ‹_› | exact bF2 ‹_›
|apply s_1
 conv=>whnf;arg 1;arg 4;arg 3;whnf
 refine ⟨?_,?_⟩
|apply zd rfl
 . conv=>lhs;whnf
 . conv=>lhs;whnf
 . first | exact h3 | exact h4 | exact h5 | exact hs1
|apply zAE rfl rfl rfl rfl
 . conv=>lhs;whnf;arg 1;whnf
 . rfl
|apply zF rfl
 . conv=>lhs;whnf
 . conv=>lhs;whnf
 . first | rfl | assumption
 . conv=>lhs;whnf;arg 2;whnf
|apply zm rfl
 . conv=>lhs;whnf
 . conv=>lhs;whnf
 . first | rfl | assumption
 . conv=>lhs;whnf
 . first | exact h3 | exact h4 | exact h5 | exact hs1
|apply zo rfl
 . conv=>lhs;whnf
 . conv=>lhs;whnf
 . first | rfl | assumption
|apply zL rfl
 . conv=>lhs;whnf
 . conv=>lhs;whnf
 . conv=>lhs;whnf;arg 2;whnf
|refine zV (by conv=>lhs;whnf) ?_ ?_<;>intro hb
|refine zO ?_
|refine zT ?_
|refine zD ?_
|refine ⟨_,by conv=>lhs;whnf;arg 2;whnf,?_⟩;conv=>rhs;whnf
|exact trivial
|intro hg)
    all_goals first
     |exact za (by omega)
     |(clear h1 h2 h3 h4 h5 h6 hs0 hs1 he e hB
       refine congrArg (fun b=>V.c (.bool b)) ?_
       simp only [n1,n2,n3,hz4,hz6] at *
       clear n1 n2 n3 hz4 hz6
       generalize argsR (d.f 4).l=a1 at *
       generalize dirsR (d.f 5).l=a2 at *
       generalize noneS (d.f 1).s=a3 at *
       generalize noneS (d.f 2).s=a4 at *
       generalize noneS (d.f 3).s=a5 at *
       generalize nameB (d.f 3).s=a6 at *
       generalize decide ((d.f 4).l.length=0)=a8 at *
       generalize selsR (selR k (lv+1)) (d.f 6).l 1 (lv+1)=a7 at *
       clear k1 k2 k3 h hk hlv
       simp_all)
  rw [if_neg k3]
  have f1:((d.f 0).n==1)=false:=by simpa using k1
  have f2:((d.f 0).n==2)=false:=by simpa using k2
  have f3:((d.f 0).n==3)=false:=by simpa using k3
  refine zG 110 Tryz.func136 rfl rfl rfl rfl ?_
  intro s w he
  repeat' (first
|apply zH
 . conv=>lhs;whnf
 . assumption
|refine zB ?_
|refine zC ?_
|refine zI ?_
|refine zY ?_
|apply aw_1
 conv=>whnf
 refine ⟨?_,trivial⟩
|apply ze rfl rfl
 . conv=>lhs;whnf
 . conv=>lhs;whnf
 . first | exact bT1 ‹_› | exact bT2 ‹_›
|apply zZ rfl rfl
 . conv=>lhs;whnf
 . conv=>lhs;whnf
 . first | exact bF1 ‹_› | exact bF2 ‹_›
|apply s_1
 conv=>whnf;arg 1;arg 4;arg 3;whnf
 refine ⟨?_,?_⟩
|apply zd rfl
 . conv=>lhs;whnf
 . conv=>lhs;whnf
 . first | exact h4 | exact h5
|apply zAE rfl rfl rfl rfl
 . conv=>lhs;whnf;arg 1;whnf
 . rfl
|apply zF rfl
 . conv=>lhs;whnf
 . conv=>lhs;whnf
 . first | rfl | assumption
 . conv=>lhs;whnf;arg 2;whnf
|apply zm rfl
 . conv=>lhs;whnf
 . conv=>lhs;whnf
 . first | rfl | assumption
 . conv=>lhs;whnf
 . first | exact h4 | exact h5
|apply zo rfl
 . conv=>lhs;whnf
 . conv=>lhs;whnf
 . first | rfl | assumption
|apply zL rfl
 . conv=>lhs;whnf
 . conv=>lhs;whnf
 . conv=>lhs;whnf;arg 2;whnf
|refine zV (by conv=>lhs;whnf) ?_ ?_<;>intro hb
|refine zO ?_
|refine zD ?_
|refine ⟨_,by conv=>lhs;whnf;arg 2;whnf,?_⟩;conv=>rhs;whnf
|exact trivial
|intro hg)
  all_goals
   clear h1 h2 h3 h4 h5 h6 hs0 hs1 he e hB
   refine congrArg (fun b=>V.c (.bool b)) ?_
   simp
theorem setF_ac (l:List D) (hw:bulkL l<=1000000000):AC EN Tryz.prog 68 [.sl 76 l,.c (.int .i64 1)] (.c (.bool (setR l))):=
 zKP l 1 (selR (bulkL l) 1) hw fun i hi=>selF_ac _ _ _ (zu hi) hw (by omega)
theorem lit_null {v:D} (hn:(v.f 0).n=0):(litR v&&bareR (bulkD v) v)=(((v.f 1).n==0&&noneS (v.f 2).s&&decide ((v.f 3).l.length=0))&&decide ((v.f 4).l.length=0)):=by
 obtain ⟨k,hk⟩ : ∃ k,bulkD v=k+1:=⟨bulkD v-1,by have:=zAj v;omega⟩
 unfold litR
 rw [hk]
 have e1:everyL (k+1) v=(nodeL v && !((v.f 3).l.any fun x => !everyL k x)):=rfl
 have e2:bareR (k+1) v=(!((v.f 0).n==7) && !((v.f 3).l.any fun x => !bareR k x)):=rfl
 have e3:sizeR (k+1) v=1+sumN (fun i=>sizeR k (gD (v.f 3).l i)) (v.f 3).l.length:=rfl
 have e4:depthR (k+1) v=maxN (fun i=>depthR k (gD (v.f 3).l i)) (v.f 3).l.length+1:=rfl
 have e5:nodeL v=((v.f 1).n==0&&noneS (v.f 2).s&&decide ((v.f 3).l.length=0)&&decide ((v.f 4).l.length=0)):=by
  rw [<- nodeD_L]
  unfold zHK nodeF
  rw [if_pos hn]
  unfold noneS
  by_cases h4:(v.f 4).l.length=0
  . rw [List.eq_nil_of_length_eq_zero h4]
    by_cases h3:(v.f 3).l.length=0
    . simp [h3]
    . simp [h3]
  . have:((v.f 4).l.length==0)=false:=by simpa using h4
    simp [h4]
 rw [e1,e2,e3,e4,e5,hn]
 by_cases h3:(v.f 3).l.length=0
 . rw [List.eq_nil_of_length_eq_zero h3]
   simp [sumN,maxN]
 . simp [h3]
def varF (d:D):Bool:=nameB (d.f 0).s&&refR (d.f 1)&&litR (d.f 3)&&bareR (bulkD (d.f 3)) (d.f 3)&&((d.f 2).b||((d.f 3).f 0).n==0)
theorem varF_R (d:D):varF d=varR d:=by
 unfold varF varR
 by_cases h:(d.f 2).b=true
 . rw [if_pos h,h]
   generalize nameB (d.f 0).s=a1
   generalize refR (d.f 1)=a2
   cases a1<;>cases a2<;>simp
 . have hb:(d.f 2).b=false:=by simpa using h
   rw [if_neg h,hb]
   by_cases hn:((d.f 3).f 0).n=0
   . have e:=lit_null hn
     rw [hn]
     generalize litR (d.f 3)=b1 at *
     generalize bareR (bulkD (d.f 3)) (d.f 3)=b2 at *
     have z:((0:Int)==0)=true:=rfl
     rw [z]
     simp only [Bool.false_or,Bool.and_true,Bool.true_and]
     rw [Bool.and_assoc (nameB (d.f 0).s&&refR (d.f 1)) b1 b2,e]
   . have:(((d.f 3).f 0).n==0)=false:=by simpa using hn
     rw [this]
     simp
def varsR (l:List D):Bool:=decide (l.length<=16) && !(l.any fun x => !varR x)
noncomputable def HVf (l:List D) (i:Nat):Vst 49:=stS 49 [(0,.sl 88 l),(3,.c (.int .i64 (i:Int)))] []
theorem varsF_ac (l:List D) (hw:bulkL l<=1000000000):AC EN Tryz.prog 67 [.sl 88 l] (.c (.bool (varsR l))):=by
 have hl:=zAM l
 have hR:varsR l=(allI varF l l.length 0&&decide (l.length<=16)):=by
  rw [zCN,Bool.and_comm]
  have:(fun x => !varF x)=fun x => !varR x:=funext fun x=>by rw [varF_R]
  rw [this];rfl
 generalize varsR l=R at hR |-
 refine zG 49 Tryz.func67 rfl rfl rfl rfl ?_
 intro s w he
 repeat' (first
|refine zB ?_
|refine zC ?_
|refine zI ?_
|apply aw_1
 conv=>whnf
 refine ⟨?_,trivial⟩
|apply s_1
 conv=>whnf;arg 1;arg 4;arg 3;whnf
 refine ⟨?_,?_⟩
|exact trivial)
 refine zi (fun j st => ∃ i,i+j=l.length/\R=(allI varF l j i&&decide (l.length<=16))/\Sub (cx EN Tryz.prog s w he) st (HVf l i)) l.length ⟨0,by omega,hR,Sub.live ⟨rfl,rfl,trivial⟩ trivial⟩ ?_
 clear hR
 rintro j st ⟨i,hij,hR,hs2⟩
 refine zf hs2 ?_
 clear hs2
 by_cases hi:i<l.length
 . obtain ⟨j,rfl⟩ : ∃ q,j=q+1:=⟨j-1,by omega⟩
   have f1:decide ((i:Int)<(l.length:Nat))=true:=decide_eq_true (by omega)
   have hR':R=(varF (gD l i)&&allI varF l j (i+1)&&decide (l.length<=16)):=hR
   clear hR
   have b0:=zu hi
   have b1:=zW (gD l i)
   have q0:=wD_f (gD l i) 0;have q0':=zy ((gD l i).f 0)
   have q1:=wD_f (gD l i) 1
   have q3:=wD_f (gD l i) 3;have q3':=zW ((gD l i).f 3)
   have r0:=wD_f ((gD l i).f 1) 0;have r0':=zy (((gD l i).f 1).f 0)
   have r1:=wD_f ((gD l i).f 1) 1;have r1':=zr (((gD l i).f 1).f 1);have r1'':=zAM (((gD l i).f 1).f 1).l
   have h1:=zAa ((gD l i).f 0).s (by omega)
   have h2:=refF_ac ((gD l i).f 1) (by omega) (by omega)
   have h3:=litF_ac ((gD l i).f 3) (by omega)
   have h4:=zIo _ ((gD l i).f 3) (zDq (bulkD ((gD l i).f 3)) ((gD l i).f 3) (Nat.le_refl _)) (by omega)
   repeat' (first
|apply zM
 . conv=>lhs;whnf
 . assumption
|refine zB ?_
|refine zC ?_
|refine zI ?_
|refine zY ?_
|apply aw_1
 conv=>whnf
 refine ⟨?_,trivial⟩
|apply ze rfl rfl
 . conv=>lhs;whnf
 . conv=>lhs;whnf
 . first | exact bT1 ‹_› | exact bT2 ‹_›
|apply zZ rfl rfl
 . conv=>lhs;whnf
 . conv=>lhs;whnf
 . first | exact bF1 ‹_› | exact bF2 ‹_›
|apply s_1
 conv=>whnf;arg 1;arg 4;arg 3;whnf
 refine ⟨?_,?_⟩
|apply zd rfl
 . conv=>lhs;whnf
 . conv=>lhs;whnf
 . first | exact h1 | exact h2 | exact h3 | exact h4
|apply zX rfl rfl rfl
 . conv=>lhs;whnf
 . conv=>lhs;whnf;arg 1;whnf
 . conv=>lhs;whnf;arg 1;whnf
 . exact ⟨by kernel_rfl,by kernel_rfl⟩
 . rfl
|apply zF rfl
 . conv=>lhs;whnf
 . conv=>lhs;whnf
 . first | rfl | assumption
 . conv=>lhs;whnf;arg 2;whnf
|apply zm rfl
 . conv=>lhs;whnf
 . conv=>lhs;whnf
 . first | rfl | assumption
 . conv=>lhs;whnf
 . first | exact h1 | exact h2 | exact h3 | exact h4
|apply zo rfl
 . conv=>lhs;whnf
 . conv=>lhs;whnf
 . first | rfl | assumption
|apply zL rfl
 . conv=>lhs;whnf
 . conv=>lhs;whnf
 . conv=>lhs;whnf;arg 2;whnf
|refine zV (by conv=>lhs;whnf) ?_ ?_<;>intro hb
|refine zO ?_
|refine zT ?_
|refine zAC ?_
|refine zD ?_
|refine ⟨_,by conv=>lhs;whnf;arg 2;whnf,?_⟩;conv=>rhs;whnf
|exact trivial
|intro hg)
   all_goals first
    |exact za (by omega)
    |exact zBL hi
    |skip
   all_goals first
    |(have e:varF (gD l i)=false:=by
       clear hR' he h1 h2 h3 h4 q0 q0' q1 q3 q3' r0 r0' r1 r1' r1'' b0 b1
       unfold varF
       simp_all
      rw [hR',e];rfl)
    |(have e:varF (gD l i)=true:=by
       clear hR' he h1 h2 h3 h4 q0 q0' q1 q3 q3' r0 r0' r1 r1' r1'' b0 b1
       unfold varF
       simp_all
      exact zE (j':=j) (by omega) ⟨i+1,by omega,by rw [hR',e,Bool.true_and],Sub.live ⟨rfl,rfl,trivial⟩ trivial⟩)
    |skip
 . obtain rfl:j=0:=by omega
   have f1:decide ((i:Int)<(l.length:Nat))=false:=decide_eq_false (by omega)
   repeat' (first
|apply zH
 . conv=>lhs;whnf
 . assumption
|refine zB ?_
|refine zC ?_
|refine zI ?_
|apply aw_1
 conv=>whnf
 refine ⟨?_,trivial⟩
|apply s_1
 conv=>whnf;arg 1;arg 4;arg 3;whnf
 refine ⟨?_,?_⟩
|refine zN ?_
|refine zJ rfl ?_
|refine zK ?_
|refine zD ?_
|refine ⟨_,by conv=>lhs;whnf;arg 2;whnf,?_⟩;conv=>rhs;whnf
|exact trivial)
   rw [hR,allI,Bool.true_and,le16]
theorem queR_all (a b:List D):queR (.obj [.list a,.list b])=(decide (1<=a.length+b.length/\a.length+b.length<=64)&&allI opR a a.length 0&&allI fragR b b.length 0):=by
 rw [zHi,zCN];rfl
noncomputable def HRo (a b:List D) (i:Nat):Vst 92:=stS 92 [(1,.bx 1 0),(4,.c (.int .i64 (i:Int)))] [(1,.box 41 [.sl 57 a,.sl 116 b])]
noncomputable def HRf (a b:List D) (i:Nat):Vst 92:=stS 92 [(1,.bx 1 0),(6,.c (.int .i64 (i:Int)))] [(1,.box 41 [.sl 57 a,.sl 116 b])]
theorem rightF_ac (a b:List D) (hwa:bulkL a<=1000000000) (hwb:bulkL b<=1000000000):AC EN Tryz.prog 32 [.agg [.sl 57 a,.sl 116 b]] (.c (.bool (queR (.obj [.list a,.list b])))):=by
 have hla:=zAM a
 have hlb:=zAM b
 have hR:=queR_all a b
 generalize queR (.obj [.list a,.list b])=R at hR |-
 have e1:decide ((a.length:Int)+(b.length:Int)<1) = !decide (1<=a.length+b.length):=by
  rw [Bool.eq_iff_iff]
  simp only [decide_eq_true_eq,Bool.not_eq_true',decide_eq_false_iff_not]
  omega
 have e2:decide ((a.length:Int)+(b.length:Int)>64) = !decide (a.length+b.length<=64):=by
  rw [Bool.eq_iff_iff]
  simp only [decide_eq_true_eq,Bool.not_eq_true',decide_eq_false_iff_not]
  omega
 rw [Bool.decide_and] at hR
 refine zG 92 Tryz.func32 rfl rfl rfl rfl ?_
 intro s w he
 repeat' (first
|refine zB ?_
|refine zC ?_
|refine zI ?_
|apply aw_1
 conv=>whnf
 refine ⟨?_,trivial⟩
|apply ze rfl rfl
 . conv=>lhs;whnf
 . conv=>lhs;whnf
 . first | exact bT1 ‹_› | exact bT2 ‹_›
|apply zZ rfl rfl
 . conv=>lhs;whnf
 . conv=>lhs;whnf
 . first | exact bF1 ‹_› | exact bF2 ‹_›
|apply s_1
 conv=>whnf;arg 1;arg 4;arg 3;whnf
 refine ⟨?_,?_⟩
|apply zAE rfl rfl rfl rfl
 . conv=>lhs;whnf;arg 1;whnf
 . rfl
|apply zF rfl
 . conv=>lhs;whnf
 . conv=>lhs;whnf
 . first | rfl | assumption
 . conv=>lhs;whnf;arg 2;whnf
|apply zo rfl
 . conv=>lhs;whnf
 . conv=>lhs;whnf
 . first | rfl | assumption
|apply zL rfl
 . conv=>lhs;whnf
 . conv=>lhs;whnf
 . conv=>lhs;whnf;arg 2;whnf
|refine zV (by conv=>lhs;whnf) ?_ ?_<;>intro hb
|refine zO ?_
|refine zD ?_
|refine ⟨_,by conv=>lhs;whnf;arg 2;whnf,?_⟩;conv=>rhs;whnf
|exact trivial
|intro hg)
 . simp only [e1,e2] at *
   generalize decide (a.length+b.length<=64)=x at *
   simp_all
 . have hR2:R=(allI opR a a.length 0&&allI fragR b b.length 0):=by
    simp only [e1,e2] at *
    simp_all
   clear hR hb hg e1 e2
   refine zi (fun j st => ∃ i,i+j=a.length/\R=(allI opR a j i&&allI fragR b b.length 0)/\Sub (cx EN Tryz.prog s w he) st (HRo a b i)) a.length ⟨0,by omega,hR2,Sub.live ⟨rfl,rfl,trivial⟩ ⟨rfl,trivial⟩⟩ ?_
   clear hR2
   rintro j st ⟨i,hij,hR,hs2⟩
   refine zf hs2 ?_
   clear hs2
   by_cases hi:i<a.length
   . obtain ⟨j,rfl⟩ : ∃ q,j=q+1:=⟨j-1,by omega⟩
     have f1:decide ((i:Int)<(a.length:Nat))=true:=decide_eq_true (by omega)
     have b0:=zu hi
     have b1:=zW (gD a i)
     have q1:=wD_f (gD a i) 1;have q1':=zy ((gD a i).f 1)
     have q2:=wD_f (gD a i) 2;have q2':=zr ((gD a i).f 2)
     have q3:=wD_f (gD a i) 3;have q3':=zr ((gD a i).f 3)
     have h1:=zAa ((gD a i).f 1).s (by omega)
     have h2:=varsF_ac ((gD a i).f 2).l (by omega)
     have h3:=setF_ac ((gD a i).f 3).l (by omega)
     have g1:decide (((gD a i).f 0).n<1) = !decide (1<=((gD a i).f 0).n):=by
      rw [Bool.eq_iff_iff]
      simp only [decide_eq_true_eq,Bool.not_eq_true',decide_eq_false_iff_not]
      omega
     have g2:decide (((gD a i).f 0).n>3) = !decide (((gD a i).f 0).n<=3):=by
      rw [Bool.eq_iff_iff]
      simp only [decide_eq_true_eq,Bool.not_eq_true',decide_eq_false_iff_not]
      omega
     have g4:=zFI ((gD a i).f 1).s
     have hR':R=((decide (1<=((gD a i).f 0).n)&&decide (((gD a i).f 0).n<=3))&&(noneS ((gD a i).f 1).s||nameB ((gD a i).f 1).s)&&varsR ((gD a i).f 2).l&&setR ((gD a i).f 3).l&&allI opR a j (i+1)&&allI fragR b b.length 0):=by
      have hop:opR (gD a i)=((decide (1<=((gD a i).f 0).n)&&decide (((gD a i).f 0).n<=3))&&(noneS ((gD a i).f 1).s||nameB ((gD a i).f 1).s)&&varsR ((gD a i).f 2).l&&setR ((gD a i).f 3).l):=by
       rw [<- Bool.decide_and]
       unfold opR varsR
       simp only [Bool.and_assoc]
      rw [hR,<- hop];rfl
     clear hR b0 b1 q1 q1' q2 q2' q3 q3'
     repeat' (first
|apply zAY rfl rfl rfl
 . conv=>lhs;whnf
 . first | rfl | assumption
 . conv=>lhs;whnf
 . first | exact bT1 ‹_› | exact bT2 ‹_› | rfl
|apply zAZ rfl rfl rfl
 . conv=>lhs;whnf
 . first | rfl | assumption
 . conv=>lhs;whnf
 . first | exact bF1 ‹_› | exact bF2 ‹_› | rfl
|apply zM
 . conv=>lhs;whnf
 . assumption
|refine zB ?_
|refine zC ?_
|refine zI ?_
|refine zY ?_
|apply aw_1
 conv=>whnf
 refine ⟨?_,trivial⟩
|apply ze rfl rfl
 . conv=>lhs;whnf
 . conv=>lhs;whnf
 . first | exact bT1 ‹_› | exact bT2 ‹_›
|apply zZ rfl rfl
 . conv=>lhs;whnf
 . conv=>lhs;whnf
 . first | exact bF1 ‹_› | exact bF2 ‹_›
|apply s_1
 conv=>whnf;arg 1;arg 4;arg 3;whnf
 refine ⟨?_,?_⟩
|apply zX rfl rfl rfl
 . conv=>lhs;whnf
 . conv=>lhs;whnf;arg 1;whnf
 . conv=>lhs;whnf;arg 1;whnf
 . exact ⟨by kernel_rfl,by kernel_rfl⟩
 . rfl
|apply zF rfl
 . conv=>lhs;whnf
 . conv=>lhs;whnf
 . first | rfl | assumption
 . conv=>lhs;whnf;arg 2;whnf
|apply zm rfl
 . conv=>lhs;whnf
 . conv=>lhs;whnf
 . first | rfl | assumption
 . conv=>lhs;whnf
 . first | exact h1 | exact h2 | exact h3
|apply zo rfl
 . conv=>lhs;whnf
 . conv=>lhs;whnf
 . first | rfl | assumption
|apply zL rfl
 . conv=>lhs;whnf
 . conv=>lhs;whnf
 . conv=>lhs;whnf;arg 2;whnf
|refine zV (by conv=>lhs;whnf) ?_ ?_<;>intro hb
|refine zO ?_
|refine zT ?_
|refine zAC ?_
|refine zD ?_
|refine ⟨_,by conv=>lhs;whnf;arg 2;whnf,?_⟩;conv=>rhs;whnf
|exact trivial
|intro hg)
     all_goals first
      |exact za (by omega)
      |exact zBL hi
      |refine congrArg (fun b=>V.c (.bool b)) ?_
      |refine zE (j':=j) (by omega) ⟨i+1,by omega,?_,Sub.live ⟨rfl,rfl,trivial⟩ ⟨rfl,trivial⟩⟩
     all_goals
      clear h1 h2 h3
      simp only [Int.toNat_natCast,Nat.reduceAdd,g1,g2,g4] at *
      clear g1 g2 g4
      generalize setR ((gD a i).f 3).l=a1 at *
      generalize varsR ((gD a i).f 2).l=a2 at *
      generalize noneS ((gD a i).f 1).s=a4 at *
      generalize nameB ((gD a i).f 1).s=a5 at *
      generalize decide (((gD a i).f 0).n<=3)=a6 at *
      generalize decide (1<=((gD a i).f 0).n)=a7 at *
      generalize allI fragR b b.length 0=a8 at *
      generalize allI opR a j (i+1)=a9 at *
      clear f1 hi hij he
      simp_all
   . obtain rfl:j=0:=by omega
     have f1:decide ((i:Int)<(a.length:Nat))=false:=decide_eq_false (by omega)
     have hR2:R=allI fragR b b.length 0:=by rw [hR,allI,Bool.true_and]
     clear hR
     repeat' (first
|apply zH
 . conv=>lhs;whnf
 . assumption
|refine zB ?_
|refine zC ?_
|refine zI ?_
|apply aw_1
 conv=>whnf
 refine ⟨?_,trivial⟩
|apply s_1
 conv=>whnf;arg 1;arg 4;arg 3;whnf
 refine ⟨?_,?_⟩
|refine zN ?_
|refine zJ rfl ?_
|refine zK ?_
|exact trivial)
     refine zi (fun j st => ∃ i,i+j=b.length/\R=allI fragR b j i/\Sub (cx EN Tryz.prog s w he) st (HRf a b i)) b.length ⟨0,by omega,hR2,Sub.live ⟨rfl,rfl,trivial⟩ ⟨rfl,trivial⟩⟩ ?_
     clear hR2
     rintro j2 st2 ⟨i2,hij2,hR,hs2⟩
     refine zf hs2 ?_
     clear hs2
     by_cases hi2:i2<b.length
     . obtain ⟨j2,rfl⟩ : ∃ q,j2=q+1:=⟨j2-1,by omega⟩
       have f2:decide ((i2:Int)<(b.length:Nat))=true:=decide_eq_true (by omega)
       have b0:=zu hi2
       have b1:=zW (gD b i2)
       have q0:=wD_f (gD b i2) 0;have q0':=zy ((gD b i2).f 0)
       have q1:=wD_f (gD b i2) 1;have q1':=zy ((gD b i2).f 1)
       have q2:=wD_f (gD b i2) 2;have q2':=zr ((gD b i2).f 2)
       have h1:=zHz ((gD b i2).f 0).s (by omega)
       have h2:=zAa ((gD b i2).f 1).s (by omega)
       have h3:=setF_ac ((gD b i2).f 2).l (by omega)
       have hR':R=(titleR ((gD b i2).f 0).s&&nameB ((gD b i2).f 1).s&&setR ((gD b i2).f 2).l&&allI fragR b j2 (i2+1)):=hR
       clear hR b0 b1 q0 q0' q1 q1' q2 q2'
       repeat' (first
|apply zM
 . conv=>lhs;whnf
 . assumption
|refine zB ?_
|refine zC ?_
|refine zI ?_
|refine zY ?_
|apply aw_1
 conv=>whnf
 refine ⟨?_,trivial⟩
|apply ze rfl rfl
 . conv=>lhs;whnf
 . conv=>lhs;whnf
 . first | exact bT1 ‹_› | exact bT2 ‹_›
|apply zZ rfl rfl
 . conv=>lhs;whnf
 . conv=>lhs;whnf
 . first | exact bF1 ‹_› | exact bF2 ‹_›
|apply s_1
 conv=>whnf;arg 1;arg 4;arg 3;whnf
 refine ⟨?_,?_⟩
|apply zd rfl
 . conv=>lhs;whnf
 . conv=>lhs;whnf
 . first | exact h1 | exact h2 | exact h3
|apply zX rfl rfl rfl
 . conv=>lhs;whnf
 . conv=>lhs;whnf;arg 1;whnf
 . conv=>lhs;whnf;arg 1;whnf
 . exact ⟨by kernel_rfl,by kernel_rfl⟩
 . rfl
|apply zF rfl
 . conv=>lhs;whnf
 . conv=>lhs;whnf
 . first | rfl | assumption
 . conv=>lhs;whnf;arg 2;whnf
|apply zm rfl
 . conv=>lhs;whnf
 . conv=>lhs;whnf
 . first | rfl | assumption
 . conv=>lhs;whnf
 . first | exact h1 | exact h2 | exact h3
|apply zo rfl
 . conv=>lhs;whnf
 . conv=>lhs;whnf
 . first | rfl | assumption
|apply zL rfl
 . conv=>lhs;whnf
 . conv=>lhs;whnf
 . conv=>lhs;whnf;arg 2;whnf
|refine zV (by conv=>lhs;whnf) ?_ ?_<;>intro hb
|refine zO ?_
|refine zT ?_
|refine zAC ?_
|refine zD ?_
|refine ⟨_,by conv=>lhs;whnf;arg 2;whnf,?_⟩;conv=>rhs;whnf
|exact trivial
|intro hg)
       all_goals first
        |exact za (by omega)
        |exact zBL hi2
        |refine congrArg (fun b=>V.c (.bool b)) ?_
        |refine zE (j':=j2) (by omega) ⟨i2+1,by omega,?_,Sub.live ⟨rfl,rfl,trivial⟩ ⟨rfl,trivial⟩⟩
       all_goals
        clear h1 h2 h3
        try simp only [Int.toNat_natCast,Nat.reduceAdd] at *
        generalize titleR ((gD b i2).f 0).s=a1 at *
        generalize nameB ((gD b i2).f 1).s=a2 at *
        generalize setR ((gD b i2).f 2).l=a4 at *
        generalize allI fragR b j2 (i2+1)=a8 at *
        clear f2 hi2 hij2 he hi hij f1
        simp_all
     . obtain rfl:j2=0:=by omega
       have f2:decide ((i2:Int)<(b.length:Nat))=false:=decide_eq_false (by omega)
       repeat' (first
|apply zH
 . conv=>lhs;whnf
 . assumption
|refine zB ?_
|refine zC ?_
|refine zI ?_
|apply aw_1
 conv=>whnf
 refine ⟨?_,trivial⟩
|apply s_1
 conv=>whnf;arg 1;arg 4;arg 3;whnf
 refine ⟨?_,?_⟩
|refine zN ?_
|refine zJ rfl ?_
|refine zK ?_
|refine zD ?_
|refine ⟨_,by conv=>lhs;whnf;arg 2;whnf,?_⟩;conv=>rhs;whnf
|exact trivial)
       rw [hR];rfl
 . simp only [e1,e2] at *
   simp_all
 . exact za (by omega)
end
section
def Hr {α:Type} (Q:α->PS->Prop) (r:PR α):Prop:=∀ v z,r = .ok (v,z)->Q v z
section
variable {α β:Type} {Q:α->PS->Prop} {R:β->PS->Prop}
end
def GT (x:PS):Prop:=∀ t∈x.ts,(t.k=2->nameB ⟨t.s.toArray⟩=true)/\1<=t.k/\t.k<=5
structure Pv (x z:PS):Prop where
 gt:GT z
 vr:z.vr=x.vr
structure VOk (lv:Nat) (vr:Bool) (n0:Nat) (v:D) (n1:Nat):Prop where
 sz : ∀ k,Dp k v->sizeR k v+n0=n1
 dp : ∀ k,Dp k v->depthR k v+lv<=25
 ev : ∀ k,Dp k v->everyL k v=true
 br:vr=false -> ∀ k,Dp k v->bareR k v=true
structure CH (lv:Nat) (vr:Bool) (n0:Nat) (l:List D) (n1:Nat):Prop where
 sz : ∀ k,(∀ i,i<l.length->Dp k (gD l i))->sumN (fun i=>sizeR k (gD l i)) l.length+n0=n1
 dp : ∀ i,i<l.length -> ∀ k,Dp k (gD l i)->depthR k (gD l i)+lv<=25
 ev : ∀ i,i<l.length -> ∀ k,Dp k (gD l i)->everyL k (gD l i)=true
 br:vr=false -> ∀ i,i<l.length -> ∀ k,Dp k (gD l i)->bareR k (gD l i)=true
section
variable {val:PS->PR D} {lv n0:Nat} {vr:Bool} (hv : ∀ y,GT y->y.vr=vr->y.nd<=4096->Hr (fun v z=>Pv y z/\VOk lv vr y.nd v z.nd/\z.nd<=4096) (val y))
include hv
end
abbrev KS:=List (Int × List UInt8)
theorem letB_u : ∀ c:UInt8,letB (c.toNat:Int)=true->letU c=true:=fun c =>
 zE6 (p:=fun c=>letB (c.toNat:Int)=true->letU c=true) (by decide +kernel) c
theorem wrdB_u : ∀ c:UInt8,(letB (c.toNat:Int)||digB (c.toNat:Int))=true->wrdU c=true:=fun c =>
 zE6 (p:=fun c=>(letB (c.toNat:Int)||digB (c.toNat:Int))=true->wrdU c=true) (by decide +kernel) c
theorem name_u {s:ByteArray} (h:nameB s=true):nameU (tx s)=true:=by
 unfold nameB at h
 have h:=of_decide_eq_true h
 obtain ⟨h1,h2,h3,h4⟩:=h
 have hl:=zAF s
 have hb : ∀ i,i<s.size->wrdU ((tx s).getD i 0)=true:=fun i hi=>wrdB_u _ (h4 i hi)
 have h0:=h4 0 h1
 rw [h3,Bool.or_false] at h0
 have h5:letU ((tx s).getD 0 0)=true:=letB_u _ h0
 generalize tx s=t at hl hb h5
 cases t with
 |nil=>simp at hl;omega
 |cons c q =>
  simp only [List.length_cons] at hl
  simp only [nameU,Bool.and_eq_true,decide_eq_true_eq]
  refine ⟨⟨h5,List.all_eq_true.2 fun x hx => ?_⟩,by omega⟩
  obtain ⟨i,hi,rfl⟩:=List.getElem_of_mem hx
  have:=hb (i+1) (by omega)
  rw [List.getD_cons_succ,List.getD_eq_getElem?_getD,List.getElem?_eq_getElem hi] at this
  exact this
theorem Pw.nm {s:ByteArray} (h:nameB s=true):Pw (tx s) [(2,tx s)]:=.name (name_u h)
def gK (g:Nat->KS) (j m:Nat):KS:=(List.range' j m).flatMap g
theorem zC6 (g:Nat->KS) (j:Nat):gK g j 0=[]:=rfl
theorem zB7 (g:Nat->KS) (j m:Nat):gK g j (m+1)=g j++gK g (j+1) m:=by
 unfold gK
 rw [List.range'_succ,List.flatMap_cons]
theorem gK_last (g:Nat->KS) : ∀ m,gK g 0 (m+1)=gK g 0 m++g m:=fun m=>by
 unfold gK
 rw [List.range'_concat,List.flatMap_append]
 simp
theorem zEN (g:Nat->KS) (h : ∀ i,1<=(g i).length) : ∀ m j,m<=(gK g j m).length
 |0,_=>Nat.zero_le _
 |m+1,j=>by
  have:=zEN g h m (j+1)
  have:=h j
  rw [zB7,List.length_append]
  omega
def Gap (sep:List UInt8):Prop:=Ps sep []/\sep≠[]/\bnd sep
theorem Gap.comma:Gap commaT:=⟨(Ps.sep (c:=44) rfl).app (Ps.sep (c:=32) rfl),by decide,zAu (by decide)⟩
theorem Gap.space:Gap [32]:=⟨.sep rfl,by decide,zAu (by decide)⟩
theorem Pw.gap {a b sep:List UInt8} {ka kb:KS} (h:Pw a ka) (hs:Gap sep) (k:Pw b kb):Pw (a++sep++b) (ka++kb):=by
 have h1:=h.app hs.1 ⟨hs.2.1,hs.2.2⟩
 rw [List.append_nil] at h1
 exact h1.appw k
theorem Pw.join {f:Nat->List UInt8} {g:Nat->KS} {sep:List UInt8} (hs:Gap sep) : ∀ n,(∀ i,i<n->Pw (f i) (g i))->Pw (Lib.join ((List.range n).map f) sep) (gK g 0 n)
 |0,_=>Ps.nil.w
 |n+1,h=>by
  have ih:=Pw.join (f:=f) (g:=g) hs n fun i hi=>h i (by omega)
  rw [gK_last,List.range_succ,List.map_append]
  cases n with
  |zero =>
   have e:Lib.join ((List.range 0).map f++[0].map f) sep=f 0:=by simp [Lib.join_one]
   rw [e]
   exact h 0 (by omega)
  |succ n =>
   have e:(List.range (n+1)).map f≠[]:=fun e=>by have:=congrArg List.length e;simp at this
   rw [List.map_cons,List.map_nil,zEK _ _ _ e]
   exact ih.gap hs (h (n+1) (by omega))
theorem zFr (l:List D) (f:D->List UInt8):l.map f=(List.range l.length).map fun i=>f (gD l i):=by
 apply List.ext_getElem (by simp)
 intro i h1 h2
 simp [zAQ (l:=l) (i:=i) (by simpa using h1)]
def rgK (g:D->KS) (l:List D):KS:=gK (fun i=>g (gD l i)) 0 l.length
theorem Pw.joinL {f:D->List UInt8} {g:D->KS} {sep:List UInt8} (hs:Gap sep) (l:List D) (h : ∀ i,i<l.length->Pw (f (gD l i)) (g (gD l i))):Pw (Lib.join (l.map f) sep) (rgK g l):=by
 rw [zFr]
 exact Pw.join hs _ h
theorem Ps.wrap {a b:UInt8} {t:List UInt8} {k:KS} (ha:zAr a=true) (hb:zAr b=true) (h:Pw t k):Ps ([a]++t++[b]) ((1,[a])::(k++[(1,[b])])):=by
 have h1:=(Ps.sign ha).appw h
 have h2:=h1.app (Ps.sign hb) ⟨by simp,zAu (zGP b hb).2.2⟩
 exact h2
def valK:Nat->D->KS
 |0,_=>[]
 |k+1,d =>
  if (d.f 0).n=1 then [(2,if (d.f 1).n=1 then [116,114,117,101] else [102,97,108,115,101])]
  else if (d.f 0).n=2 then [(3,Lib.itoa (d.f 1).n)]
  else if (d.f 0).n=3 then [(4,tx (d.f 2).s)]
  else if (d.f 0).n=4 then [(2,tx (d.f 2).s)]
  else if (d.f 0).n=7 then [(1,[36]),(2,tx (d.f 2).s)]
  else if (d.f 0).n=5 then (1,[91])::(gK (fun i=>valK k (gD (d.f 3).l i)) 0 (d.f 3).l.length++[(1,[93])])
  else if (d.f 0).n=6 then (1,[123])::(gK (fun i=>(2,tx (gD (d.f 4).l i).s)::(1,[58])::valK k (gD (d.f 3).l i)) 0 (d.f 3).l.length++[(1,[125])])
  else [(2,[110,117,108,108])]
structure NodeF (d:D):Prop where
 int0:(d.f 0).n=1\/(d.f 0).n=2\/(d.f 1).n=0
 txt0:(d.f 0).n=3\/(d.f 0).n=4\/(d.f 0).n=7\/tx (d.f 2).s=[]
 keys0:(d.f 0).n=6\/(d.f 4).l.length=0
 items0:(d.f 0).n=6\/(d.f 0).n=5\/(d.f 3).l.length=0
 kind:0<=(d.f 0).n/\(d.f 0).n<=7
 bool:(d.f 0).n=1->(d.f 1).n=0\/(d.f 1).n=1
 enum:(d.f 0).n=4->enumR (d.f 2).s=true
 var:(d.f 0).n=7->nameB (d.f 2).s=true
 obj:(d.f 0).n=6->(∀ i,i<(d.f 4).l.length->nameB (gD (d.f 4).l i).s=true)/\(d.f 4).l.length=(d.f 3).l.length/\(strsR d).Nodup
theorem zE5 {p:D->Bool} {l:List D} (h:(l.any fun x => !p x)=false) : ∀ i,i<l.length->p (gD l i)=true:=fun i hi=>by
 rw [List.any_eq_false] at h
 have:=h _ (gD_mem hi)
 simpa using this
theorem xnode {d:D} (h:nodeL d=true):NodeF d:=by
 unfold nodeL nodeK at h
 simp only [Bool.and_eq_true,Bool.or_eq_true,beq_iff_eq,decide_eq_true_eq,Bool.not_eq_true',beq_eq_false_iff_ne] at h
 obtain ⟨⟨⟨⟨⟨⟨⟨⟨h1,h2⟩,h3⟩,h4⟩,h5⟩,h6⟩,h7⟩,h8⟩,h9⟩:=h
 refine ⟨?_,?_,h3,?_,h5,?_,?_,?_,?_⟩
 . rcases h1 with (h | h) | h
   . exact .inl h
   . exact .inr (.inl h)
   . exact .inr (.inr h)
 . rcases h2 with ((h | h) | h) | h
   . exact .inl h
   . exact .inr (.inl h)
   . exact .inr (.inr (.inl h))
   . exact .inr (.inr (.inr h))
 . rcases h4 with (h | h) | h
   . exact .inl h
   . exact .inr (.inl h)
   . exact .inr (.inr h)
 . intro h
   rcases h6 with (h' | h') | h'
   . exact absurd h h'
   . exact .inl h'
   . exact .inr h'
 . intro h
   rcases h7 with h' | h'
   . exact absurd h h'
   . exact h'
 . intro h
   rcases h8 with h' | h'
   . exact absurd h h'
   . exact h'
 . intro h
   rcases h9 with h' | h'
   . exact absurd h h'
   . exact ⟨zE5 h'.1.1,h'.1.2,h'.2⟩
theorem zEp {k:Nat} {d:D} (h:everyL (k+1) d=true):NodeF d /\ ∀ i,i<(d.f 3).l.length->everyL k (gD (d.f 3).l i)=true:=by
 unfold everyL at h
 rw [Bool.and_eq_true,Bool.not_eq_true'] at h
 exact ⟨xnode h.1,zE5 h.2⟩
theorem zIf {s:ByteArray} (h:enumR s=true):nameB s=true/\tx s≠[116,114,117,101]/\tx s≠[102,97,108,115,101]/\tx s≠[110,117,108,108]:=by
 unfold enumR at h
 simp only [Bool.and_eq_true,Bool.not_eq_true',beq_eq_false_iff_ne] at h
 exact ⟨h.1.1.1,h.1.1.2,h.1.2,h.2⟩
theorem zI6 : ∀ (k:Nat) (d:D),wideD d->everyL k d=true->Pw (valT k d) (valK k d)
 |0,_,_,h=>by cases h
 |k+1,d,hw,h=>by
  obtain ⟨hn,hi⟩:=zEp h
  unfold valT valK
  split
  . split
    . exact .name rfl
    . exact .name rfl
  split
  . exact .int _ (hw.f 1).n.1 (hw.f 1).n.2
  split
  . exact (Ps.quote _).w
  split
  . exact .nm (zIf (hn.enum ‹_›)).1
  split
  . exact (Ps.sign (c:=36) rfl).appw (.nm (hn.var ‹_›))
  split
  . exact (Ps.wrap rfl rfl (Pw.join (f:=fun i=>valT k (gD (d.f 3).l i)) (g:=fun i=>valK k (gD (d.f 3).l i)) .comma _ fun i hl=>zI6 k _ ((hw.f 3).l i) (hi i hl))).w
  split
  . obtain ⟨h1,h2,-⟩:=hn.obj ‹_›
    rw [show min (d.f 4).l.length (d.f 3).l.length=(d.f 3).l.length by omega]
    refine (Ps.wrap rfl rfl (Pw.join (f:=fun i=>tx (gD (d.f 4).l i).s++[58,32]++valT k (gD (d.f 3).l i)) (g:=fun i=>(2,tx (gD (d.f 4).l i).s)::(1,[58])::valK k (gD (d.f 3).l i)) .comma _ fun i hl => ?_)).w
    have p1:=(Pw.nm (h1 i (by omega))).app ((Ps.sign (c:=58) rfl).app (Ps.sep (c:=32) rfl)) ⟨by simp,zAu (by decide)⟩
    exact p1.appw (zI6 k _ ((hw.f 3).l i) (hi i hl))
  . exact .name rfl
theorem valT_eq {a b:Nat} {d:D} (ha:Dp a d) (hb:Dp b d):valT a d=valT b d:=by
 rcases Nat.le_total a b with h | h
 . exact (zFX ha h).symm
 . exact zFX hb h
def litK (d:D):KS:=valK (bulkD d) d
theorem litT_pw {K:Nat} {d:D} (hd:Dp K d) (hw:wideD d) (h:litR d=true):Pw (valT K d) (litK d):=by
 unfold litR at h
 rw [Bool.and_eq_true] at h
 rw [valT_eq hd (zDq (bulkD d) d (Nat.le_refl _))]
 exact zI6 _ _ hw h.2
def argK (a:D):KS:=(2,tx (a.f 0).s)::(1,[58])::litK (a.f 1)
def parK (l:List D):KS:=if l.length=0 then [] else (1,[40])::(rgK argK l++[(1,[41])])
def dirK (x:D):KS:=(1,[64])::(2,tx (x.f 0).s)::parK (x.f 1).l
theorem zEW {l:List D} (h:argsR l=true):l.length<=16 /\ ∀ i,i<l.length->nameB ((gD l i).f 0).s=true/\litR ((gD l i).f 1)=true:=by
 unfold argsR at h
 rw [Bool.and_eq_true,Bool.not_eq_true',decide_eq_true_eq] at h
 refine ⟨h.1,fun i hi => ?_⟩
 have:=zE5 h.2 i hi
 unfold argR at this
 rwa [Bool.and_eq_true] at this
theorem zF3 {l:List D} (h:dirsR l=true):l.length<=16 /\ ∀ i,i<l.length->nameB ((gD l i).f 0).s=true/\argsR ((gD l i).f 1).l=true:=by
 unfold dirsR at h
 rw [Bool.and_eq_true,Bool.not_eq_true',decide_eq_true_eq] at h
 refine ⟨h.1,fun i hi => ?_⟩
 have:=zE5 h.2 i hi
 unfold dirR at this
 rwa [Bool.and_eq_true] at this
theorem zLM {s:ByteArray} {t:List UInt8} {k:KS} (hs:nameB s=true) (h:Pw t k):Pw (tx s++[58,32]++t) ((2,tx s)::(1,[58])::k):=by
 have p1:=(Pw.nm hs).app ((Ps.sign (c:=58) rfl).app (Ps.sep (c:=32) rfl)) ⟨by simp,zAu (by decide)⟩
 exact p1.appw h
theorem argsT_pw {K:Nat} {l:List D} (h:argsR l=true) (hd : ∀ i,i<l.length->Dp K ((gD l i).f 1)) (hw : ∀ i,wideD (gD l i)):Pw (zDu K l) (rgK argK l):=by
 unfold zDu
 exact Pw.joinL .comma l fun i hi=>zLM ((zEW h).2 i hi).1 (litT_pw (hd i hi) ((hw i).f 1) ((zEW h).2 i hi).2)
theorem parT_ps {K:Nat} {l:List D} (h:argsR l=true) (hd : ∀ i,i<l.length->Dp K ((gD l i).f 1)) (hw : ∀ i,wideD (gD l i)):Ps (parT K l) (parK l):=by
 unfold parT parK
 split
 . exact .nil
 . exact Ps.wrap rfl rfl (argsT_pw h hd hw)
theorem zKZ (K:Nat) (l:List D):bnd (parT K l):=by
 unfold parT
 split
 . exact zJy
 . exact zAu (by decide)
theorem dirsT_pw {K:Nat} {l:List D} (h:dirsR l=true) (hd:DirsOk K l):Pw (zGI K l) (rgK dirK l):=by
 unfold zGI
 refine Pw.joinL .space l fun i hi => ?_
 obtain ⟨h1,h2⟩:=(zF3 h).2 i hi
 have p1:=(Ps.sign (c:=64) rfl).appw (Pw.nm h1)
 exact p1.appw (parT_ps h2 (hd.args i hi).dp (hd.args i hi).wide).w (zKZ _ _)
theorem tailT_pw {K:Nat} {l:List D} (h:dirsR l=true) (hd:DirsOk K l):Pw (zB1 K l) (rgK dirK l):=by
 unfold zB1
 split
 . rename_i h0
   unfold rgK
   rw [h0]
   exact Ps.nil.w
 . exact (Ps.sep (c:=32) rfl).appw (dirsT_pw h hd)
theorem tailT_bnd (K:Nat) (l:List D):bnd (zB1 K l):=by
 unfold zB1
 split
 . exact zJy
 . exact zAu (by decide)
def blkK (k:KS):KS:=(1,[123])::(k++[(1,[125])])
def selK (inner:List D->KS) (s:D):KS:=
 if (s.f 0).n=2 then (1,[46,46,46])::(2,tx (s.f 2).s)::rgK dirK (s.f 5).l
 else if (s.f 0).n=3 then (1,[46,46,46])::((if tx (s.f 3).s=[] then [] else [(2,onT),(2,tx (s.f 3).s)])++(rgK dirK (s.f 5).l++blkK (inner (s.f 6).l)))
 else (if tx (s.f 1).s=[] then [] else [(2,tx (s.f 1).s),(1,[58])])++((2,tx (s.f 2).s)::(parK (s.f 4).l++(rgK dirK (s.f 5).l++(if (s.f 6).l.length=0 then [] else blkK (inner (s.f 6).l)))))
def selsK:Nat->List D->KS
 |0,_=>[]
 |f+1,l=>rgK (selK (selsK f)) l
structure SelF (sub:List D->Nat->Prop) (d:D):Prop where
 args:argsR (d.f 4).l=true
 dirs:dirsR (d.f 5).l=true
 field:(d.f 0).n=1->tx (d.f 3).s=[]/\nameB (d.f 2).s=true/\(tx (d.f 1).s=[]\/nameB (d.f 1).s=true)/\sub (d.f 6).l 0
 spread:(d.f 0).n=2->tx (d.f 3).s=[]/\tx (d.f 1).s=[]/\(d.f 4).l.length=0/\(d.f 6).l.length=0/\nameB (d.f 2).s=true/\tx (d.f 2).s≠[111,110]
 inline:(d.f 0).n=3->tx (d.f 1).s=[]/\tx (d.f 2).s=[]/\(d.f 4).l.length=0/\(tx (d.f 3).s=[]\/nameB (d.f 3).s=true)/\sub (d.f 6).l 1
 kind:(d.f 0).n=1\/(d.f 0).n=2\/(d.f 0).n=3
theorem zFp {s:ByteArray}:noneS s=true ↔ tx s=[]:=by unfold noneS tx;rw [beq_iff_eq]
theorem zKC {s:ByteArray} (h:titleR s=true):nameB s=true/\tx s≠[111,110]:=by
 unfold titleR at h
 rw [Bool.and_eq_true,Bool.not_eq_true',beq_eq_false_iff_ne] at h
 exact h
def SetF (sel:D->Prop) (lv:Nat) (l:List D) (least:Nat):Prop:=least<=l.length/\l.length<=64/\(l.length=0\/lv<=24) /\ ∀ i,i<l.length->sel (gD l i)
theorem xset {sel:D->Bool} {l:List D} {least lv:Nat} (h:selsR sel l least lv=true):SetF (fun d=>sel d=true) lv l least:=by
 unfold selsR at h
 simp only [Bool.and_eq_true,Bool.or_eq_true,decide_eq_true_eq,Bool.not_eq_true'] at h
 exact ⟨h.1.1.1,h.1.1.2,h.1.2,zE5 h.2⟩
theorem xsel {k lv:Nat} {d:D} (h:selR (k+1) lv d=true):SelF (fun l least=>SetF (fun x=>selR k (lv+1) x=true) (lv+1) l least) d:=by
 unfold selR at h
 rw [Bool.and_eq_true,Bool.and_eq_true] at h
 obtain ⟨⟨h1,h2⟩,h3⟩:=h
 by_cases k1:(d.f 0).n=1
 . rw [if_pos k1] at h3
   simp only [Bool.and_eq_true,Bool.or_eq_true,zFp] at h3
   exact ⟨h1,h2,fun _=>⟨h3.1.1.1,h3.1.1.2,h3.1.2,xset h3.2⟩,fun e=>by omega,fun e=>by omega,.inl k1⟩
 rw [if_neg k1] at h3
 by_cases k2:(d.f 0).n=2
 . rw [if_pos k2] at h3
   simp only [Bool.and_eq_true,zFp,decide_eq_true_eq] at h3
   have ht:=zKC h3.2
   exact ⟨h1,h2,fun e=>absurd e k1,fun _=>⟨h3.1.1.1.1,h3.1.1.1.2,h3.1.1.2,h3.1.2,ht.1,ht.2⟩,fun e=>by omega,.inr (.inl k2)⟩
 rw [if_neg k2] at h3
 by_cases k3:(d.f 0).n=3
 . rw [if_pos k3] at h3
   simp only [Bool.and_eq_true,Bool.or_eq_true,zFp,decide_eq_true_eq] at h3
   exact ⟨h1,h2,fun e=>absurd e k1,fun e=>absurd e k2,fun _=>⟨h3.1.1.1.1,h3.1.1.1.2,h3.1.1.2,h3.1.2,xset h3.2⟩,.inr (.inr k3)⟩
 . rw [if_neg k3] at h3;cases h3
theorem rep_ps (n:Nat):Ps (Lib.repeatL [32,32] n) []:=by
 induction n with
 |zero=>exact .nil
 |succ n ih =>
  have e:Lib.repeatL [32,32] (n+1)=[32]++[32]++Lib.repeatL [32,32] n:=by simp [Lib.repeatL,List.replicate_succ]
  rw [e]
  exact ((Ps.sep (c:=32) rfl).app (Ps.sep (c:=32) rfl)).app ih
theorem zEg {n:Nat} {t:List UInt8} {k:KS} (h:Pw t k):Ps (zAl n t) k:=by
 unfold zAl
 have h1:=(rep_ps n).appw h
 have h2:=h1.app (Ps.sep (c:=10) rfl) ⟨by simp,zAu (by decide)⟩
 rw [List.append_nil] at h2
 exact h2
theorem brace_pw {t:List UInt8} {k:KS} (h:Pw t k):Pw (t++[32,123]) (k++[(1,[123])]):=
 (h.app ((Ps.sep (c:=32) rfl).app (Ps.sign (c:=123) rfl)) ⟨by simp,zAu (by decide)⟩).w
theorem zHe {n m:Nat} {t i:List UInt8} {k ki:KS} (h:Pw t k) (hi:Ps i ki):Ps (zAl n (t++[32,123])++i++zAl m [125]) (k++blkK ki):=by
 have h1:=zEg (n:=n) (brace_pw h)
 have h2:=zEg (n:=m) (Ps.sign (c:=125) rfl).w
 have h3:=(h1.app hi).app h2
 have e:k++[(1,[123])]++ki++[(1,[125])]=k++blkK ki:=by simp [blkK]
 rwa [e] at h3
theorem flat_ps {f:D->List UInt8} {g:D->KS} (l:List D) (h : ∀ i,i<l.length->Ps (f (gD l i)) (g (gD l i))):Ps (l.map f).flatten (rgK g l):=by
 have key : ∀ n,n<=l.length->Ps (((List.range n).map fun i=>f (gD l i)).flatten) (gK (fun i=>g (gD l i)) 0 n):=fun n=>by
  induction n with
  |zero=>intro _;exact .nil
  |succ n ih =>
   intro hn
   rw [List.range_succ,List.map_append,List.flatten_append,gK_last]
   have:=(ih (by omega)).app (h n (by omega))
   simpa using this
 rw [zFr]
 exact key _ (Nat.le_refl _)
theorem head_pw {K:Nat} {sub:List D->Nat->Prop} {inner:List D->Prop} {s:D} (h:SelF sub s) (ho:SelOk K inner s) :
 Pw (zBh K s) (if (s.f 0).n=2 then (1,[46,46,46])::(2,tx (s.f 2).s)::rgK dirK (s.f 5).l
  else if (s.f 0).n=3 then (1,[46,46,46])::((if tx (s.f 3).s=[] then [] else [(2,onT),(2,tx (s.f 3).s)])++rgK dirK (s.f 5).l)
  else (if tx (s.f 1).s=[] then [] else [(2,tx (s.f 1).s),(1,[58])])++((2,tx (s.f 2).s)::(parK (s.f 4).l++rgK dirK (s.f 5).l))):=by
 have ht:=tailT_pw h.dirs ho.dirs
 have hb:=tailT_bnd K (s.f 5).l
 unfold zBh
 by_cases k2:(s.f 0).n=2
 . rw [if_pos k2,if_pos k2]
   have hn:=(h.spread k2).2.2.2.2.1
   exact (Ps.dots.appw (Pw.nm hn)).appw ht hb
 rw [if_neg k2,if_neg k2]
 by_cases k3:(s.f 0).n=3
 . rw [if_pos k3,if_pos k3]
   by_cases e:tx (s.f 3).s=[]
   . rw [if_pos e,if_pos e,List.append_nil]
     exact Ps.dots.appw ht
   . rw [if_neg e,if_neg e]
     have hn:nameB (s.f 3).s=true:=by rcases (h.inline k3).2.2.2.1 with h' | h';exact absurd h' e;exact h'
     have p1:Pw ([32,111,110,32]++tx (s.f 3).s) [(2,onT),(2,tx (s.f 3).s)]:=by
      have a:=(Ps.sep (c:=32) rfl).appw (Pw.name (l:=[111,110]) rfl)
      exact a.gap .space (Pw.nm hn)
     exact (Ps.dots.appw p1).appw ht hb
 . rw [if_neg k3,if_neg k3]
   have k1:(s.f 0).n=1:=by rcases h.kind with h' | h' | h';exact h';exact absurd h' k2;exact absurd h' k3
   obtain ⟨-,hn,ha,-⟩:=h.field k1
   have pp:=parT_ps h.args ho.args.dp ho.args.wide
   have p1:Pw (tx (s.f 2).s++parT K (s.f 4).l++zB1 K (s.f 5).l) ((2,tx (s.f 2).s)::(parK (s.f 4).l++rgK dirK (s.f 5).l)):=by
    have a:=((Pw.nm hn).appw pp.w (zKZ _ _)).appw ht hb
    exact a
   by_cases e:tx (s.f 1).s=[]
   . rw [if_pos e,if_pos e];exact p1
   . rw [if_neg e,if_neg e]
     have hn:nameB (s.f 1).s=true:=by rcases ha with h' | h';exact absurd h' e;exact h'
     exact zLM hn p1
theorem sel_ps {K n:Nat} {sub:List D->Nat->Prop} {inner:List D->Prop} {iT:List D->List UInt8} {iK:List D->KS} {s:D} (h:SelF sub s) (ho:SelOk K inner s) (hi:Ps (iT (s.f 6).l) (iK (s.f 6).l)) :
 Ps (selT K iT n s) (selK iK s):=by
 have hh:=head_pw h ho
 unfold selT selK
 by_cases k2:(s.f 0).n=2
 . rw [if_pos k2] at hh
   rw [if_pos k2,if_neg (by unfold zBl;rw [k2];simp)]
   exact zEg hh
 rw [if_neg k2] at hh
 rw [if_neg k2]
 by_cases k3:(s.f 0).n=3
 . rw [if_pos k3] at hh
   rw [if_pos k3,if_pos (by unfold zBl;rw [k3];rfl)]
   have:=zHe (n:=n) (m:=n) hh hi
   simpa [List.append_assoc] using this
 . rw [if_neg k3] at hh
   rw [if_neg k3]
   by_cases e:(s.f 6).l.length=0
   . rw [if_neg (by unfold zBl;simp [k3,e]),if_pos e,List.append_nil]
     exact zEg hh
   . rw [if_pos (by unfold zBl;simp [k2,e]),if_neg e]
     have:=zHe (n:=n) (m:=n) hh hi
     simpa [List.append_assoc] using this
theorem zJG {K:Nat} : ∀ (f k lv n:Nat) (l:List D),SelsOk K f l->(∀ i,i<l.length->selR k lv (gD l i)=true)->Ps (selsT K f n l) (selsK f l)
 |0,_,_,_,_,_,_ => .nil
 |f+1,k,lv,n,l,h,hr=>by
  unfold selsT selsK
  refine flat_ps l fun i hi => ?_
  have h1:=h i hi
  have h2:=hr i hi
  cases k with
  |zero=>cases h2
  |succ k =>
   have hs:=xsel h2
   refine sel_ps hs h1 (zJG f k (lv+1) (n+1) _ h1.sub fun j hj => ?_)
   rcases hs.kind with e | e | e
   . exact (hs.field e).2.2.2.2.2.2 j hj
   . have:=(hs.spread e).2.2.2.1;omega
   . exact (hs.inline e).2.2.2.2.2.2.2 j hj
def refK (n:List UInt8):List D->KS
 |[]=>[(2,n)]
 |d::ds=>if d.n==1 then refK n ds++[(1,[33])] else (1,[91])::(refK n ds++[(1,[93])])
theorem refB_pw {s:ByteArray} (h:nameB s=true) : ∀ l:List D,Pw (refB (tx s) l) (refK (tx s) l)
 |[] => .nm h
 |d::ds=>by
  have ih:=refB_pw h ds
  unfold refB refK
  split
  . exact (ih.app (Ps.sign (c:=33) rfl) ⟨by simp,zAu (by decide)⟩).w
  . exact (Ps.wrap rfl rfl ih).w
def varK (v:D):KS:=(1,[36])::(2,tx (v.f 0).s)::(1,[58])::(refK (tx ((v.f 1).f 0).s) ((v.f 1).f 1).l++(if (v.f 2).b=true then (1,[61])::litK (v.f 3) else []))
structure VarF (v:D):Prop where
 name:nameB (v.f 0).s=true
 rname:nameB ((v.f 1).f 0).s=true
 rlen:((v.f 1).f 1).l.length<=24
 wraps:zDZ (((v.f 1).f 1).l.map D.n)=true
 has:(v.f 2).b=true->litR (v.f 3)=true/\bareR (bulkD (v.f 3)) (v.f 3)=true
 hasnt:(v.f 2).b=false->((v.f 3).f 0).n=0/\((v.f 3).f 1).n=0/\tx ((v.f 3).f 2).s=[]/\((v.f 3).f 3).l.length=0/\((v.f 3).f 4).l.length=0
theorem xvar {v:D} (h:varR v=true):VarF v:=by
 unfold varR refR at h
 simp only [Bool.and_eq_true,decide_eq_true_eq] at h
 obtain ⟨⟨h1,⟨h2,h3⟩,h4⟩,h5⟩:=h
 refine ⟨h1,h2,h3,h4,fun e => ?_,fun e => ?_⟩
 . rw [if_pos e] at h5
   rwa [Bool.and_eq_true] at h5
 . rw [if_neg (by rw [e];decide)] at h5
   simp only [Bool.and_eq_true,beq_iff_eq,zFp,decide_eq_true_eq] at h5
   exact ⟨h5.1.1.1.1,h5.1.1.1.2,h5.1.1.2,h5.1.2,h5.2⟩
theorem varT_pw {K:Nat} {v:D} (h:VarF v) (hd:Dp K (v.f 3)) (hw:wideD v):Pw (varT K v) (varK v):=by
 have hr:=refB_pw h.rname ((v.f 1).f 1).l
 unfold varT varK
 have p1:=(Ps.sign (c:=36) rfl).appw (Pw.nm h.name)
 have p2:=p1.app ((Ps.sign (c:=58) rfl).app (Ps.sep (c:=32) rfl)) ⟨by simp,zAu (by decide)⟩
 split
 . have p3:=hr.app ((Ps.sep (c:=32) rfl).app ((Ps.sign (c:=61) rfl).app (Ps.sep (c:=32) rfl))) ⟨by simp,zAu (by decide)⟩
   have p4:=p2.appw (p3.appw (litT_pw hd (hw.f 3) (h.has ‹_›).1))
   simpa [List.append_assoc] using p4
 . rw [List.append_nil,List.append_nil]
   have p4:=p2.appw hr
   simpa [List.append_assoc] using p4
def varsK (l:List D):KS:=if l.length=0 then [] else (1,[40])::(rgK varK l++[(1,[41])])
def opK (f:Nat) (o:D):KS:=
 if (o.f 0).n=1/\tx (o.f 1).s=[]/\(o.f 2).l.length=0 then blkK (selsK f (o.f 3).l)
 else (2,zBc (o.f 0).n)::((if tx (o.f 1).s=[] then [] else [(2,tx (o.f 1).s)])++(varsK (o.f 2).l++blkK (selsK f (o.f 3).l)))
def frgK (f:Nat) (o:D):KS:=(2,zIW)::(2,tx (o.f 0).s)::(2,onT)::(2,tx (o.f 1).s)::blkK (selsK f (o.f 2).l)
structure OpF (o:D):Prop where
 kind:1<=(o.f 0).n/\(o.f 0).n<=3
 name:tx (o.f 1).s=[]\/nameB (o.f 1).s=true
 vlen:(o.f 2).l.length<=16
 vars : ∀ i,i<(o.f 2).l.length->VarF (gD (o.f 2).l i)
 sels:SetF (fun d=>selR (bulkL (o.f 3).l) 1 d=true) 1 (o.f 3).l 1
structure FragF (o:D):Prop where
 name:nameB (o.f 0).s=true
 notOn:tx (o.f 0).s≠[111,110]
 on:nameB (o.f 1).s=true
 sels:SetF (fun d=>selR (bulkL (o.f 2).l) 1 d=true) 1 (o.f 2).l 1
theorem xop {o:D} (h:opR o=true):OpF o:=by
 unfold opR setR at h
 simp only [Bool.and_eq_true,Bool.or_eq_true,decide_eq_true_eq,Bool.not_eq_true',zFp] at h
 obtain ⟨⟨⟨⟨h1,h2⟩,h3⟩,h4⟩,h5⟩:=h
 exact ⟨h1,h2,h3,fun i hi=>xvar (zE5 h4 i hi),xset h5⟩
theorem xfrag {o:D} (h:fragR o=true):FragF o:=by
 unfold fragR setR at h
 simp only [Bool.and_eq_true] at h
 have ht:=zKC h.1.1
 exact ⟨ht.1,ht.2,h.1.2,xset h.2⟩
structure QueF (q:D):Prop where
 len:1<=(q.f 0).l.length+(q.f 1).l.length/\(q.f 0).l.length+(q.f 1).l.length<=64
 ops : ∀ i,i<(q.f 0).l.length->OpF (gD (q.f 0).l i)
 frags : ∀ i,i<(q.f 1).l.length->FragF (gD (q.f 1).l i)
theorem xque {q:D} (h:queR q=true):QueF q:=by
 unfold queR at h
 simp only [Bool.and_eq_true,decide_eq_true_eq,Bool.not_eq_true'] at h
 refine ⟨h.1.1,fun i hi=>xop ?_,fun i hi=>xfrag (zE5 h.2 i hi)⟩
 exact List.all_eq_true.1 h.1.2 _ (gD_mem hi)
theorem word_name (k:Int):nameU (zBc k)=true:=by
 unfold zBc
 split
 . rfl
 . split<;>rfl
theorem varsT_ps {K:Nat} {l:List D} (h : ∀ i,i<l.length->VarF (gD l i)) (hv:VarsOk K l):Ps (if l.length=0 then [] else [40]++zHp K l++[41]) (varsK l):=by
 unfold varsK
 split
 . exact .nil
 . exact Ps.wrap rfl rfl (by unfold zHp;exact Pw.joinL .comma l fun i hi=>varT_pw (h i hi) (hv.dp i hi) (hv.wide i))
theorem opT_pw {K:Nat} {o:D} (h:OpF o) (hv:VarsOk K (o.f 2).l) (hn : ¬ ((o.f 0).n=1/\tx (o.f 1).s=[]/\(o.f 2).l.length=0)) :
 ∃ t,opT K o=t++[32,123]/\Pw t ((2,zBc (o.f 0).n)::((if tx (o.f 1).s=[] then [] else [(2,tx (o.f 1).s)])++varsK (o.f 2).l)):=by
 unfold opT
 rw [if_neg hn]
 refine ⟨_,rfl,?_⟩
 have p1:=Pw.name (word_name (o.f 0).n)
 have p2:Pw (zBc (o.f 0).n++(if tx (o.f 1).s=[] then [] else [32]++tx (o.f 1).s)) ((2,zBc (o.f 0).n)::(if tx (o.f 1).s=[] then [] else [(2,tx (o.f 1).s)])):=by
  by_cases e:tx (o.f 1).s=[]
  . rw [if_pos e,if_pos e,List.append_nil];exact p1
  . rw [if_neg e,if_neg e]
    have hn:nameB (o.f 1).s=true:=by rcases h.name with h' | h';exact absurd h' e;exact h'
    have:=p1.gap .space (Pw.nm hn)
    simpa [List.append_assoc] using this
 have hb:bnd (if (o.f 2).l.length=0 then [] else [40]++zHp K (o.f 2).l++[41]):=by
  split
  . exact zJy
  . exact zAu (by decide)
 exact p2.appw (varsT_ps h.vars hv).w hb
theorem zIt {K f:Nat} {t first:List UInt8} {k:KS} {l:List D} (e:first=t++[32,123]) (h:Pw t k) (hs:Ps (selsT K f 1 l) (selsK f l)):Ps (zDE K f first l) (k++blkK (selsK f l)):=by
 unfold zDE
 rw [e]
 exact zHe h hs
theorem opB_ps {K f:Nat} {o:D} (h:OpF o) (hv:VarsOk K (o.f 2).l) (hs:SelsOk K f (o.f 3).l):Ps (opB K f o) (opK f o):=by
 have hp:=zJG f (bulkL (o.f 3).l) 1 1 (o.f 3).l hs h.sels.2.2.2
 unfold opB opK
 by_cases hn:(o.f 0).n=1/\tx (o.f 1).s=[]/\(o.f 2).l.length=0
 . rw [if_pos hn]
   unfold zDE opT
   rw [if_pos hn]
   have h1:=zEg (n:=0) (Ps.sign (c:=123) rfl).w
   have h2:=zEg (n:=0) (Ps.sign (c:=125) rfl).w
   exact (h1.app hp).app h2
 . rw [if_neg hn]
   obtain ⟨t,e,ht⟩:=opT_pw h hv hn
   have:=zIt e ht hp
   simpa [List.append_assoc] using this
theorem frgB_ps {K f:Nat} {o:D} (h:FragF o) (hs:SelsOk K f (o.f 2).l):Ps (zCT K f o) (frgK f o):=by
 have hp:=zJG f (bulkL (o.f 2).l) 1 1 (o.f 2).l hs h.sels.2.2.2
 unfold zCT
 have p1:Pw ([102,114,97,103,109,101,110,116]++[32]++tx (o.f 0).s) ([(2,zIW)]++[(2,tx (o.f 0).s)]):=(Pw.name (l:=zIW) rfl).gap .space (Pw.nm h.name)
 have p2:=p1.gap .space (Pw.name (l:=[111,110]) rfl)
 have p3:=p2.gap .space (Pw.nm h.on)
 have:=zIt (first:=zE9 o) (by simp [zE9,List.append_assoc]) p3 hp
 simpa [List.append_assoc,frgK,onT] using this
def docK (f:Nat) (q:D):KS:=rgK (opK f) (q.f 0).l++rgK (frgK f) (q.f 1).l
theorem join_ps {sep:List UInt8} (hs:Ps sep []) : ∀ (ts:List (List UInt8)) (ks:List KS),ts.length=ks.length->(∀ i,i<ts.length->Ps (ts.getD i []) (ks.getD i []))->Ps (Lib.join ts sep) ks.flatten
 |[],[],_,_ => .nil
 |[],_::_,h,_=>by cases h
 |_::_,[],h,_=>by cases h
 |t::ts,k::ks,hl,h=>by
  have h0:Ps t k:=h 0 (by simp)
  have ht : ∀ (ts:List (List UInt8)) (ks:List KS),ts.length=ks.length->(∀ i,i<ts.length->Ps (ts.getD i []) (ks.getD i []))->Ps (Lib.joinTail sep ts) ks.flatten:=fun ts=>by
   induction ts with
   |nil=>intro ks e _;cases ks with
    |nil=>exact .nil
    |cons _ _=>cases e
   |cons t ts ih =>
    intro ks e h
    cases ks with
    |nil=>cases e
    |cons k ks =>
     have h1:Ps t k:=h 0 (by simp)
     have h2:=ih ks (by simpa using e) fun i hi=>by
      have:=h (i+1) (by simpa using hi)
      simpa using this
     have h3:=(hs.app h1).app h2
     simpa [Lib.joinTail] using h3
  rw [Lib.join_cons,List.flatten_cons]
  exact h0.app (ht ts ks (by simpa using hl) fun i hi=>by
   have:=h (i+1) (by simpa using hi)
   simpa using this)
theorem zKR (g:D->KS) (l:List D):rgK g l=(l.map g).flatten:=by
 unfold rgK gK
 rw [<- List.range_eq_range',List.flatMap_def]
 congr 1
 apply List.ext_getElem (by simp)
 intro i h1 h2
 simp [zAQ (l:=l) (i:=i) (by simpa using h2)]
theorem docT_ps {K f:Nat} {q:D} (h:QueF q) (hv : ∀ i,i<(q.f 0).l.length->VarsOk K ((gD (q.f 0).l i).f 2).l)
 (ho : ∀ i,i<(q.f 0).l.length->SelsOk K f ((gD (q.f 0).l i).f 3).l) (hf : ∀ i,i<(q.f 1).l.length->SelsOk K f ((gD (q.f 1).l i).f 2).l):Ps (docT K f q) (docK f q):=by
 unfold docT docK
 rw [zKR,zKR,<- List.flatten_append]
 refine join_ps (.sep rfl) _ _ (by simp) fun i hi => ?_
 by_cases hl:i<(q.f 0).l.length
 . have:=opB_ps (h.ops i hl) (hv i hl) (ho i hl)
   rw [List.getD_eq_getElem?_getD,List.getD_eq_getElem?_getD,List.getElem?_append_left (by simpa using hl),List.getElem?_append_left (by simpa using hl),List.getElem?_map,List.getElem?_map,List.getElem?_eq_getElem hl]
   rw [zAQ hl] at this
   exact this
 . have hl2:i-(q.f 0).l.length<(q.f 1).l.length:=by simp at hi;omega
   have:=frgB_ps (h.frags _ hl2) (hf _ hl2)
   rw [List.getD_eq_getElem?_getD,List.getD_eq_getElem?_getD,List.getElem?_append_right (by simp;omega),List.getElem?_append_right (by simp;omega),List.length_map,List.length_map,List.getElem?_map,List.getElem?_map,List.getElem?_eq_getElem hl2]
   rw [zAQ hl2] at this
   exact this
def mkT (p:Int × List UInt8):Tok:=⟨p.1,p.2,0⟩
def pst (l:KS) (v:Bool) (n:Nat):PS:=⟨l.map mkT,v,n⟩
theorem zDe (k:Int) (s:List UInt8) (r:KS) (v:Bool) (n:Nat):hdT (pst ((k,s)::r) v n)=⟨k,s,0⟩:=rfl
theorem zAf {k:Int} {s:List UInt8} {r:KS} {v:Bool} {n:Nat} (h:k≠5):nxT (pst ((k,s)::r) v n)=pst r v n:=by
 unfold nxT
 rw [zDe,if_neg h]
 rfl
theorem zCr (k:Int) (s:List UInt8) (r:KS) (v:Bool) (n:Nat) (t:List UInt8):isS (pst ((k,s)::r) v n) t=(k==1&&s==t):=rfl
theorem zAg (s:List UInt8) (r:KS) (v:Bool) (n:Nat):isS (pst ((1,s)::r) v n) s=true:=by
 rw [zCr];simp
theorem zBX (s:List UInt8) (r:KS) (v:Bool) (n:Nat):takeQ s (pst ((1,s)::r) v n) = .ok ((),pst r v n):=by
 unfold takeQ
 rw [if_pos (zAg s r v n),zAf (by decide)]
theorem zAs (s:List UInt8) (r:KS) (v:Bool) (n:Nat):nameQ (pst ((2,s)::r) v n) = .ok (s,pst r v n):=by
 unfold nameQ
 rw [zDe,if_pos rfl,zAf (by decide)]
theorem then_ok_eq {α β:Type} {a:α} {x:PS} {f:α->PS->PR β}:thenQ (.ok (a,x)) f=f a x:=rfl
def nS (r:KS) (s:List UInt8):Prop:=∀ v n,isS (pst r v n) s=false
theorem zAy {k:Int} {s t:List UInt8} {r:KS} (h:(k==1&&s==t)=false):nS ((k,s)::r) t:=fun _ _=>h
theorem zJW {g:Nat->KS} {j m:Nat} {r:KS} {s:List UInt8} (hg : ∀ i r,nS (g i++r) s) (hr:nS r s):nS (gK g j m++r) s:=by
 cases m with
 |zero=>exact hr
 |succ m=>rw [zB7,List.append_assoc];exact hg _ _
def cnt:List Int->Nat
 |[]=>0
 |d::l=>if d=1 then cnt l else cnt l+1
theorem zER (d:Int) (l:List Int):cnt (d::l)=if d=1 then cnt l else cnt l+1:=rfl
theorem cnt_app (a b:List Int):cnt (a++b)=cnt a+cnt b:=by
 induction a with
 |nil=>simp [cnt]
 |cons d l ih =>
  rw [List.cons_append,zER,zER]
  split<;>omega
def clsK (es:List Int):KS:=es.map fun d=>(1,[if d=1 then 33 else 93])
theorem refK_eq (n:List UInt8) : ∀ ds:List D,refK n ds=List.replicate (cnt (ds.map D.n)) (1,[91])++(2,n)::clsK (ds.map D.n).reverse
 |[]=>rfl
 |d::ds=>by
  have ih:=refK_eq n ds
  unfold refK
  rw [ih,List.map_cons,List.reverse_cons,zER]
  by_cases h:d.n=1
  . rw [if_pos (by rw [h];rfl),if_pos h]
    simp [clsK,h]
  . rw [if_neg (by simpa using h),if_neg h,List.replicate_succ]
    simp [clsK,h]
theorem cnt_rev (l:List Int):cnt l.reverse=cnt l:=by
 induction l with
 |nil=>rfl
 |cons d l ih =>
  rw [List.reverse_cons,cnt_app,ih,zER,zER]
  split<;>simp [cnt]
theorem zKc {r:KS} {v:Bool} {n:Nat} (hr:nS r [91]) : ∀ (m f:Nat),m<=f->openQ f (pst (List.replicate m (1,[91])++r) v n)=(m,pst r v n)
 |0,0,_=>rfl
 |0,f+1,_=>by
  unfold openQ
  rw [if_neg (by rw [List.replicate_zero,List.nil_append,hr];decide)]
  rfl
 |m+1,0,h=>by omega
 |m+1,f+1,h=>by
  unfold openQ
  rw [List.replicate_succ,List.cons_append,if_pos (zAg _ _ _ _),zAf (by decide),zKc hr m f (by omega)]
theorem zJ4 : ∀ {l:List Int},zDZ l=true->(∀ x∈l,x=1\/x=2) /\ ∀ p a b q,l=p++a::b::q -> ¬ (a=1/\b=1)
 |[],_=>⟨fun _ h=>absurd h (by simp),fun p a b q e=>by have:=congrArg List.length e;simp at this⟩
 |[w],h=>by
  unfold zDZ at h
  simp only [Bool.or_eq_true,beq_iff_eq] at h
  refine ⟨fun x hx => ?_,fun p a b q e => ?_⟩
  . rw [List.mem_singleton] at hx;rw [hx];exact h
  . have:=congrArg List.length e;simp at this;omega
 |w::u::r,h=>by
  unfold zDZ at h
  simp only [Bool.and_eq_true,Bool.or_eq_true,beq_iff_eq,Bool.not_eq_true',Bool.and_eq_false_iff,beq_eq_false_iff_ne] at h
  obtain ⟨⟨h1,h2⟩,h3⟩:=h
  obtain ⟨i1,i2⟩:=zJ4 h3
  refine ⟨fun x hx => ?_,fun p a b q e => ?_⟩
  . rcases List.mem_cons.1 hx with rfl | hx
    . exact h1
    . exact i1 x hx
  . cases p with
    |nil =>
     rw [List.nil_append] at e
     injection e with e1 e2
     injection e2 with e2 e3
     subst e1 e2
     rintro ⟨a1,a2⟩
     rcases h2 with h2 | h2
     . exact h2 a1
     . exact h2 a2
    |cons y p =>
     rw [List.cons_append] at e
     injection e with e1 e2
     exact i2 p a b q e2
theorem zF7 {r:KS} {v:Bool} {n:Nat} (hr:nS r [33]) : ∀ (es w:List Int),(∀ x∈es,x=1\/x=2)->(∀ p a b q,es=p++a::b::q -> ¬ (a=1/\b=1)) ->
 closeQ (cnt es) w (pst (clsK es++r) v n) = .ok (es.reverse++w,pst r v n)
 |[],w,_,_=>by
  show closeQ 0 w (pst r v n)=_
  unfold closeQ
  rw [if_neg (by rw [hr];decide)]
  rfl
 |[d],w,h,_=>by
  rcases h d (by simp) with rfl | rfl
  . show closeQ 0 w (pst ((1,[33])::r) v n)=_
    unfold closeQ
    rw [if_pos (zAg _ _ _ _),zAf (by decide)]
    rfl
  . show closeQ 1 w (pst ((1,[93])::r) v n)=_
    unfold closeQ
    rw [if_neg (by rw [zCr];decide),if_neg (by rw [zCr];decide),zBX,then_ok_eq]
    unfold closeQ
    rw [if_neg (by rw [hr];decide)]
    rfl
 |d::e::es,w,h,ha=>by
  rcases h d (by simp) with rfl | rfl
  . have he:e=2:=by
     rcases h e (by simp) with h' | h'
     . exact absurd ⟨rfl,h'⟩ (ha [] 1 e es rfl)
     . exact h'
    subst he
    have ih:=zF7 (v:=v) (n:=n) hr es (2::1::w) (fun x hx=>h x (by simp [hx])) (fun p a b q e'=>ha (1::2::p) a b q (by rw [e'];rfl))
    show closeQ (cnt es+1) w (pst ((1,[33])::(1,[93])::(clsK es++r)) v n)=_
    unfold closeQ
    rw [if_pos (zAg _ _ _ _),if_pos (zAg _ _ _ _),zAf (by decide),zBX,then_ok_eq,ih]
    simp
  . have ih:=zF7 (v:=v) (n:=n) hr (e::es) (2::w) (fun x hx=>h x (by simp at hx |-;exact .inr hx)) (fun p a b q e'=>ha (2::p) a b q (by rw [e'];rfl))
    show closeQ (cnt (e::es)+1) w (pst ((1,[93])::(clsK (e::es)++r)) v n)=_
    unfold closeQ
    rw [if_neg (by rw [zCr];decide),if_neg (by rw [zCr];decide),zBX,then_ok_eq,ih]
    simp
theorem typ_pst {nm:List UInt8} {ds:List D} {r:KS} {v:Bool} {n:Nat} (hw:zDZ (ds.map D.n)=true) (hl:ds.length<=24) (hr:nS r [33]):typQ (pst (refK nm ds++r) v n) = .ok (refD nm (ds.map D.n),pst r v n):=by
 obtain ⟨h1,h2⟩:=zJ4 hw
 have e:refK nm ds++r=List.replicate (cnt (ds.map D.n)) (1,[91])++(2,nm)::(clsK (ds.map D.n).reverse++r):=by rw [refK_eq];simp
 have ho:=zKc (r:=(2,nm)::(clsK (ds.map D.n).reverse++r)) (v:=v) (n:=n) (zAy rfl) (cnt (ds.map D.n)) (pst (refK nm ds++r) v n).ts.length (by rw [e];simp [pst])
 have hc:=zF7 (v:=v) (n:=n) hr (ds.map D.n).reverse [] (fun x hx=>h1 x (by simpa using hx)) (fun p a b q e'=>fun hab=>by
  have e2:ds.map D.n=q.reverse++b::a::p.reverse:=by have:=congrArg List.reverse e';simpa using this
  exact h2 _ _ _ _ e2 ⟨hab.2,hab.1⟩)
 rw [cnt_rev] at hc
 unfold typQ innerQ
 rw [e] at ho |-
 rw [ho]
 dsimp only
 rw [zAs,then_ok_eq,hc,then_ok_eq,then_ok_eq]
 dsimp only
 rw [if_neg (by simp;omega)]
 simp
def cnV:Nat->D->D
 |0,d=>d
 |k+1,d=>valD (d.f 0).n (d.f 1).n (tx (d.f 2).s) ((List.range (d.f 3).l.length).map fun i=>cnV k (gD (d.f 3).l i)) (strsR d)
theorem zLN (k:Nat) (d:D):cnV (k+1) d=valD (d.f 0).n (d.f 1).n (tx (d.f 2).s) ((List.range (d.f 3).l.length).map fun i=>cnV k (gD (d.f 3).l i)) (strsR d):=rfl
def cL (d:D):D:=cnV (bulkD d) d
theorem zCH {f lv:Nat} {kk:Int} {s:List UInt8} {r:KS} {v:Bool} {n:Nat} (h0:zCt (pst ((kk,s)::r) v n)=false) (hk:kk≠5) (hlv:lv<=24) (hn:n<4096) :
 valueQ (f+1) lv (pst ((kk,s)::r) v n)=(if kk=3 then .ok (valD 2 (numQ s) [] [] [],pst r v (n+1)) else if kk=4 then .ok (valD 3 0 s [] [],pst r v (n+1)) else if kk=2 then .ok (zEY s,pst r v (n+1))
  else if s=[36] then thenQ (nameQ (pst r v (n+1))) (fun n z => .ok (valD 7 0 n [] [],z))
  else if s=[91] then thenQ (itemsQ (valueQ f (lv+1)) (r.length+1) [] (pst r v (n+1))) (fun l z => .ok (valD 5 0 [] l [],z))
  else thenQ (zAJ (valueQ f (lv+1)) (r.length+1) [] [] (pst r v (n+1))) (fun l z => .ok (valD 6 0 [] l.2 l.1,z))):=by
 have hy:({ nxT (pst ((kk,s)::r) v n) with nd:=n+1 }:PS)=pst r v (n+1):=by rw [zAf hk];rfl
 have hlen:(pst r v (n+1)).ts.length=r.length:=by simp [pst]
 unfold valueQ
 rw [show (pst ((kk,s)::r) v n).nd=n from rfl,if_neg (by rw [h0];decide),if_neg (by omega),if_neg (show ¬ 4096<=n by omega)]
 dsimp only
 rw [hy,zDe,zAf hk]
 dsimp only
 rw [show (pst r v n).ts.length=r.length by simp [pst]]
theorem zIT {val:PS->PR D} {g:Nat->KS} {c:Nat->D} {sz:Nat->Nat} {v:Bool} {n0 N:Nat} (hval : ∀ i r,i<N->val (pst (g i++r) v (n0+sumN sz i)) = .ok (c i,pst r v (n0+sumN sz (i+1))))
 (hfst : ∀ i r n,i<N->isS (pst (g i++r) v n) [93]=false) : ∀ (m j f:Nat) (r:KS),j+m=N->m<f ->
 itemsQ val f ((List.range j).map c) (pst (gK g j m++(1,[93])::r) v (n0+sumN sz j)) = .ok ((List.range N).map c,pst r v (n0+sumN sz N))
 |_,_,0,_,_,hf=>by omega
 |0,j,f+1,r,hj,_=>by
  have e:j=N:=by omega
  subst e
  unfold itemsQ
  rw [zC6,List.nil_append,if_pos (zAg _ _ _ _),zAf (by decide)]
 |m+1,j,f+1,r,hj,hf=>by
  have ih:=zIT hval hfst m (j+1) f r (by omega) (by omega)
  unfold itemsQ
  rw [zB7,List.append_assoc,if_neg (by rw [hfst j _ _ (by omega)];decide),hval j _ (by omega),then_ok_eq]
  rw [List.range_succ,List.map_append] at ih
  exact ih
theorem zGj {val:PS->PR D} {g:Nat->KS} {c:Nat->D} {key:Nat->List UInt8} {sz:Nat->Nat} {v:Bool} {n0 N:Nat} (hval : ∀ i r,i<N->val (pst (g i++r) v (n0+sumN sz i)) = .ok (c i,pst r v (n0+sumN sz (i+1))))
 (hnd : ∀ i j,i<j->j<N->key i≠key j) : ∀ (m j f:Nat) (r:KS),j+m=N->m<f ->
 zAJ val f ((List.range j).map key) ((List.range j).map c) (pst (gK (fun i=>(2,key i)::(1,[58])::g i) j m++(1,[125])::r) v (n0+sumN sz j)) = .ok (((List.range N).map key,(List.range N).map c),pst r v (n0+sumN sz N))
 |_,_,0,_,_,hf=>by omega
 |0,j,f+1,r,hj,_=>by
  have e:j=N:=by omega
  subst e
  unfold zAJ
  rw [zC6,List.nil_append,if_pos (zAg _ _ _ _),zAf (by decide)]
 |m+1,j,f+1,r,hj,hf=>by
  have ih:=zGj hval hnd m (j+1) f r (by omega) (by omega)
  have hc:((List.range j).map key).contains (key j)=false:=by
   simp only [List.contains_eq_mem,decide_eq_false_iff_not,List.mem_map,List.mem_range]
   rintro ⟨i,hi,e⟩
   exact hnd i j hi (by omega) e
  unfold zAJ
  rw [zB7,List.append_assoc,List.cons_append,List.cons_append,if_neg (by rw [zCr];simp),zAs,then_ok_eq,if_neg (by rw [hc];decide),zBX,then_ok_eq,hval j _ (by omega),then_ok_eq]
  rw [List.range_succ,List.map_append,List.map_append] at ih
  exact ih
theorem maxN_at {f:Nat->Nat} : ∀ {n i:Nat},i<n->f i<=maxN f n
 |0,_,h=>by omega
 |n+1,i,h=>by
  unfold maxN
  by_cases e:i=n
  . subst e;omega
  . have:=maxN_at (f:=f) (n:=n) (i:=i) (by omega);omega
theorem zKF {d:D} (h:(d.f 4).l.length=0):strsR d=[]:=by
 unfold strsR
 rw [List.length_eq_zero_iff.1 h];rfl
theorem zCl {k:Nat} {d:D} (h:(d.f 3).l.length=0) (h2:(d.f 4).l.length=0):cnV (k+1) d=valD (d.f 0).n (d.f 1).n (tx (d.f 2).s) [] []/\sizeR (k+1) d=1:=by
 unfold cnV sizeR
 rw [h,zKF h2]
 exact ⟨rfl,rfl⟩
theorem zKA {k:Nat} {d:D} (h:everyL k d=true) : ∃ kk s t,valK k d=(kk,s)::t/\(kk==1&&s==[93])=false:=by
 cases k with
 |zero=>cases h
 |succ k =>
  unfold valK
  repeat' split
  all_goals exact ⟨_,_,_,rfl,rfl⟩
theorem zHr : ∀ (k f lv:Nat) (d:D) (r:KS) (v:Bool) (n:Nat),everyL k d=true->wideD d->lv+depthR k d<=25->depthR k d<=f->n+sizeR k d<=4096->(v=false->bareR k d=true) ->
 valueQ f lv (pst (valK k d++r) v n) = .ok (cnV k d,pst r v (n+sizeR k d))
 |0,_,_,_,_,_,_,h,_,_,_,_,_=>by cases h
 |k+1,f,lv,d,r,v,n,h,hw,hlv,hf,hn,hb=>by
  obtain ⟨hN,hi⟩:=zEp h
  have hd1:1<=depthR (k+1) d:=by unfold depthR;omega
  have hs1:1<=sizeR (k+1) d:=by unfold sizeR;omega
  obtain ⟨f,rfl⟩ : ∃ q,f=q+1:=⟨f-1,by omega⟩
  have hdep : ∀ i,i<(d.f 3).l.length->depthR k (gD (d.f 3).l i)+1<=depthR (k+1) d:=fun i hl=>by
   have:=maxN_at (f:=fun i=>depthR k (gD (d.f 3).l i)) hl
   have e:depthR (k+1) d=maxN (fun i=>depthR k (gD (d.f 3).l i)) (d.f 3).l.length+1:=rfl
   omega
  have hsz:sizeR (k+1) d=1+sumN (fun i=>sizeR k (gD (d.f 3).l i)) (d.f 3).l.length:=rfl
  have hbar:v=false->(d.f 0).n≠7 /\ ∀ i,i<(d.f 3).l.length->bareR k (gD (d.f 3).l i)=true:=fun e=>by
   have:=hb e
   unfold bareR at this
   simp only [Bool.and_eq_true,Bool.not_eq_true',beq_eq_false_iff_ne] at this
   exact ⟨this.1,zE5 this.2⟩
  have hval : ∀ i r,i<(d.f 3).l.length->valueQ f (lv+1) (pst (valK k (gD (d.f 3).l i)++r) v (n+1+sumN (fun i=>sizeR k (gD (d.f 3).l i)) i)) = .ok (cnV k (gD (d.f 3).l i),pst r v (n+1+sumN (fun i=>sizeR k (gD (d.f 3).l i)) (i+1))):=fun i r hl=>by
   have h1:=hdep i hl
   have h2:=zBd (fun i=>sizeR k (gD (d.f 3).l i)) (show i+1<=(d.f 3).l.length by omega)
   have h3:sumN (fun i=>sizeR k (gD (d.f 3).l i)) (i+1)=sumN (fun i=>sizeR k (gD (d.f 3).l i)) i+sizeR k (gD (d.f 3).l i):=rfl
   rw [zHr k f (lv+1) _ r v _ (hi i hl) ((hw.f 3).l i) (by omega) (by omega) (by omega) fun e=>(hbar e).2 i hl,h3,Nat.add_assoc (n+1)]
  by_cases k1:(d.f 0).n=1
  . have i0:(d.f 3).l.length=0:=by rcases hN.items0 with e | e | e<;>omega
    have q0:(d.f 4).l.length=0:=by rcases hN.keys0 with e | e<;>omega
    have t0:tx (d.f 2).s=[]:=by rcases hN.txt0 with e | e | e | e<;>first | omega | exact e
    obtain ⟨e1,e2⟩:=zCl (k:=k) i0 q0
    rw [e1,e2,t0,k1]
    unfold valK
    rw [if_pos k1,List.cons_append,List.nil_append,zCH rfl (by decide) (by omega) (by omega),if_neg (by decide),if_neg (by decide),if_pos rfl]
    rcases hN.bool k1 with e | e
    . rw [e,if_neg (by decide)];rfl
    . rw [e,if_pos rfl];rfl
  by_cases k2:(d.f 0).n=2
  . have i0:(d.f 3).l.length=0:=by rcases hN.items0 with e | e | e<;>omega
    have q0:(d.f 4).l.length=0:=by rcases hN.keys0 with e | e<;>omega
    have t0:tx (d.f 2).s=[]:=by rcases hN.txt0 with e | e | e | e<;>first | omega | exact e
    obtain ⟨e1,e2⟩:=zCl (k:=k) i0 q0
    rw [e1,e2,t0,k2]
    unfold valK
    rw [if_neg k1,if_pos k2,List.cons_append,List.nil_append,zCH rfl (by decide) (by omega) (by omega),if_pos rfl]
    unfold numQ
    rw [zKe _ (hw.f 1).n.1 (hw.f 1).n.2]
  by_cases k3:(d.f 0).n=3
  . have i0:(d.f 3).l.length=0:=by rcases hN.items0 with e | e | e<;>omega
    have q0:(d.f 4).l.length=0:=by rcases hN.keys0 with e | e<;>omega
    have n0:(d.f 1).n=0:=by rcases hN.int0 with e | e | e<;>omega
    obtain ⟨e1,e2⟩:=zCl (k:=k) i0 q0
    rw [e1,e2,n0,k3]
    unfold valK
    rw [if_neg k1,if_neg k2,if_pos k3,List.cons_append,List.nil_append,zCH rfl (by decide) (by omega) (by omega),if_neg (by decide),if_pos rfl]
  by_cases k4:(d.f 0).n=4
  . have i0:(d.f 3).l.length=0:=by rcases hN.items0 with e | e | e<;>omega
    have q0:(d.f 4).l.length=0:=by rcases hN.keys0 with e | e<;>omega
    have n0:(d.f 1).n=0:=by rcases hN.int0 with e | e | e<;>omega
    obtain ⟨-,w1,w2,w3⟩:=zIf (hN.enum k4)
    obtain ⟨e1,e2⟩:=zCl (k:=k) i0 q0
    rw [e1,e2,n0,k4]
    unfold valK
    rw [if_neg k1,if_neg k2,if_neg k3,if_pos k4,List.cons_append,List.nil_append,zCH rfl (by decide) (by omega) (by omega),if_neg (by decide),if_neg (by decide),if_pos rfl]
    unfold zEY
    rw [if_neg w1,if_neg w2,if_neg w3]
  by_cases k7:(d.f 0).n=7
  . have i0:(d.f 3).l.length=0:=by rcases hN.items0 with e | e | e<;>omega
    have q0:(d.f 4).l.length=0:=by rcases hN.keys0 with e | e<;>omega
    have n0:(d.f 1).n=0:=by rcases hN.int0 with e | e | e<;>omega
    obtain ⟨e1,e2⟩:=zCl (k:=k) i0 q0
    cases v with
    |false=>exact absurd k7 (hbar rfl).1
    |true =>
     rw [e1,e2,n0,k7]
     unfold valK
     rw [if_neg k1,if_neg k2,if_neg k3,if_neg k4,if_pos k7,List.cons_append,List.cons_append,List.nil_append,zCH rfl (by decide) (by omega) (by omega),if_neg (by decide),if_neg (by decide),if_neg (by decide),if_pos rfl,zAs]
     rfl
  by_cases k5:(d.f 0).n=5
  . have q0:(d.f 4).l.length=0:=by rcases hN.keys0 with e | e<;>omega
    have n0:(d.f 1).n=0:=by rcases hN.int0 with e | e | e<;>omega
    have t0:tx (d.f 2).s=[]:=by rcases hN.txt0 with e | e | e | e<;>first | omega | exact e
    have hit:=zIT (v:=v) hval (fun i r n hl=>by
     obtain ⟨kk,s,t,e,hk⟩:=zKA (hi i hl)
     rw [e,List.cons_append,zCr];exact hk) (d.f 3).l.length 0 ((gK (fun i=>valK k (gD (d.f 3).l i)) 0 (d.f 3).l.length++(1,[93])::r).length+1) r (by omega) (by
      have:=zEN (fun i=>if i<(d.f 3).l.length then valK k (gD (d.f 3).l i) else [(1,[])]) (fun i=>by
       split
       . rename_i hl
         obtain ⟨kk,s,t,e,-⟩:=zKA (hi i hl)
         rw [e];simp
       . simp) (d.f 3).l.length 0
      have e2:gK (fun i=>if i<(d.f 3).l.length then valK k (gD (d.f 3).l i) else [(1,[])]) 0 (d.f 3).l.length=gK (fun i=>valK k (gD (d.f 3).l i)) 0 (d.f 3).l.length:=by
       unfold gK
       rw [List.flatMap_def,List.flatMap_def]
       congr 1
       refine List.map_congr_left fun i hi2 => ?_
       have:i<(d.f 3).l.length:=by simpa using List.mem_range'.1 hi2 |>.elim fun x hx=>by omega
       rw [if_pos this]
      rw [e2] at this
      rw [List.length_append]
      omega)
    have e0:n+1+sumN (fun i=>sizeR k (gD (d.f 3).l i)) 0=n+1:=rfl
    rw [e0] at hit
    unfold valK
    rw [if_neg k1,if_neg k2,if_neg k3,if_neg k4,if_neg k7,if_pos k5]
    have ea:(1,[91])::(gK (fun i=>valK k (gD (d.f 3).l i)) 0 (d.f 3).l.length++[(1,[93])])++r=((1:Int),[(91:UInt8)])::(gK (fun i=>valK k (gD (d.f 3).l i)) 0 (d.f 3).l.length++(1,[93])::r):=by simp
    rw [ea,zCH rfl (by decide) (by omega) (by omega),if_neg (by decide),if_neg (by decide),if_neg (by decide),if_neg (by decide),if_pos rfl]
    have hit':itemsQ (valueQ f (lv+1)) ((gK (fun i=>valK k (gD (d.f 3).l i)) 0 (d.f 3).l.length++(1,[93])::r).length+1) [] (pst (gK (fun i=>valK k (gD (d.f 3).l i)) 0 (d.f 3).l.length++(1,[93])::r) v (n+1))=_:=hit
    rw [hit',then_ok_eq,hsz,Nat.add_assoc n 1,zLN,k5,n0,t0,zKF q0]
  by_cases k6:(d.f 0).n=6
  . obtain ⟨-,hlen,hnd⟩:=hN.obj k6
    have n0:(d.f 1).n=0:=by rcases hN.int0 with e | e | e<;>omega
    have t0:tx (d.f 2).s=[]:=by rcases hN.txt0 with e | e | e | e<;>first | omega | exact e
    have hst:strsR d=(List.range (d.f 3).l.length).map fun i=>tx (gD (d.f 4).l i).s:=by
     unfold strsR
     rw [<- hlen]
     exact zFr (d.f 4).l fun x=>tx x.s
    have hkey : ∀ i j,i<j->j<(d.f 3).l.length->tx (gD (d.f 4).l i).s≠tx (gD (d.f 4).l j).s:=fun i j hij hj=>by
     rw [hst] at hnd
     have:=List.pairwise_iff_getElem.1 hnd i j (by simp;omega) (by simp;omega) hij
     simpa using this
    have hit:=zGj (key:=fun i=>tx (gD (d.f 4).l i).s) (v:=v) hval hkey (d.f 3).l.length 0 ((gK (fun i=>(2,tx (gD (d.f 4).l i).s)::(1,[58])::valK k (gD (d.f 3).l i)) 0 (d.f 3).l.length++(1,[125])::r).length+1) r (by omega) (by
     have:=zEN (fun i=>(2,tx (gD (d.f 4).l i).s)::(1,[58])::valK k (gD (d.f 3).l i)) (fun i=>by simp) (d.f 3).l.length 0
     rw [List.length_append]
     omega)
    have e0:n+1+sumN (fun i=>sizeR k (gD (d.f 3).l i)) 0=n+1:=rfl
    rw [e0] at hit
    unfold valK
    rw [if_neg k1,if_neg k2,if_neg k3,if_neg k4,if_neg k7,if_neg k5,if_pos k6]
    have ea:(1,[123])::(gK (fun i=>(2,tx (gD (d.f 4).l i).s)::(1,[58])::valK k (gD (d.f 3).l i)) 0 (d.f 3).l.length++[(1,[125])])++r=((1:Int),[(123:UInt8)])::(gK (fun i=>(2,tx (gD (d.f 4).l i).s)::(1,[58])::valK k (gD (d.f 3).l i)) 0 (d.f 3).l.length++(1,[125])::r):=by simp
    rw [ea,zCH rfl (by decide) (by omega) (by omega),if_neg (by decide),if_neg (by decide),if_neg (by decide),if_neg (by decide),if_neg (by decide)]
    have hit':zAJ (valueQ f (lv+1)) ((gK (fun i=>(2,tx (gD (d.f 4).l i).s)::(1,[58])::valK k (gD (d.f 3).l i)) 0 (d.f 3).l.length++(1,[125])::r).length+1) [] [] (pst (gK (fun i=>(2,tx (gD (d.f 4).l i).s)::(1,[58])::valK k (gD (d.f 3).l i)) 0 (d.f 3).l.length++(1,[125])::r) v (n+1))=_:=hit
    rw [hit',then_ok_eq,hsz,Nat.add_assoc n 1,zLN,k6,n0,t0,hst]
  . have kd:=hN.kind
    have k0:(d.f 0).n=0:=by omega
    have i0:(d.f 3).l.length=0:=by rcases hN.items0 with e | e | e<;>omega
    have q0:(d.f 4).l.length=0:=by rcases hN.keys0 with e | e<;>omega
    have n0:(d.f 1).n=0:=by rcases hN.int0 with e | e | e<;>omega
    have t0:tx (d.f 2).s=[]:=by rcases hN.txt0 with e | e | e | e<;>first | omega | exact e
    obtain ⟨e1,e2⟩:=zCl (k:=k) i0 q0
    rw [e1,e2,n0,t0,k0]
    unfold valK
    rw [if_neg k1,if_neg k2,if_neg k3,if_neg k4,if_neg k7,if_neg k5,if_neg k6,List.cons_append,List.nil_append,zCH rfl (by decide) (by omega) (by omega),if_neg (by decide),if_neg (by decide),if_pos rfl]
    rfl
theorem zHm {d:D} {r:KS} {v:Bool} {n:Nat} (h:litR d=true) (hw:wideD d) (hb:v=false->bareR (bulkD d) d=true):zA4 (pst (litK d++r) v n) = .ok (cL d,pst r v (sizeR (bulkD d) d)):=by
 unfold litR at h
 simp only [Bool.and_eq_true,decide_eq_true_eq] at h
 have:=zHr (bulkD d) 25 1 d r v 0 h.2 hw (by omega) (by omega) (by omega) hb
 rw [Nat.zero_add] at this
 exact this
def rgD (c:D->D) (l:List D):List D:=(List.range l.length).map fun i=>c (gD l i)
def cA (a:D):D:=argD (tx (a.f 0).s) (cL (a.f 1))
def cDir (x:D):D:=dirD (tx (x.f 0).s) (rgD cA (x.f 1).l)
theorem zJM (c:D->D):rgD c []=[]:=rfl
theorem zDw (c:Nat->D) (j:Nat):((List.range j).map c).length=j:=by simp
theorem zIw {l:List D} (h:argsR l=true) (hw : ∀ i,wideD (gD l i)) (h0:0<l.length) : ∀ (m j f:Nat) (r:KS) (n:Nat),j+m=l.length->m<f ->
 ∃ n',argsF f ((List.range j).map fun i=>cA (gD l i)) (pst (gK (fun i=>argK (gD l i)) j m++(1,[41])::r) true n) = .ok (rgD cA l,pst r true n')
 |_,_,0,_,_,_,hf=>by omega
 |0,j,f+1,r,n,hj,_=>by
  have e:j=l.length:=by omega
  subst e
  unfold argsF
  rw [zDw,zC6,List.nil_append,if_pos ⟨by omega,zAg _ _ _ _⟩,zAf (by decide)]
  exact ⟨n,rfl⟩
 |m+1,j,f+1,r,n,hj,hf=>by
  obtain ⟨hl,ha⟩:=zEW h
  have hj2:j<l.length:=by omega
  obtain ⟨n',ih⟩:=zIw h hw h0 m (j+1) f r (sizeR (bulkD ((gD l j).f 1)) ((gD l j).f 1)) (by omega) (by omega)
  refine ⟨n',?_⟩
  unfold argsF
  rw [zDw,zB7,List.append_assoc]
  have e:argK (gD l j)++(gK (fun i=>argK (gD l i)) (j+1) m++(1,[41])::r)=(2,tx ((gD l j).f 0).s)::(1,[58])::(litK ((gD l j).f 1)++(gK (fun i=>argK (gD l i)) (j+1) m++(1,[41])::r)):=rfl
  rw [e,if_neg (fun q=>by have:=q.2;rw [zCr] at this;simp at this),if_neg (fun q=>by omega),zAs,then_ok_eq,zBX,then_ok_eq,zHm (ha j hj2).2 ((hw j).f 1) (fun e=>by cases e),then_ok_eq]
  rw [List.range_succ,List.map_append] at ih
  exact ih
theorem zLV {l:List D} (h:argsR l=true) (hw : ∀ i,wideD (gD l i)) {r:KS} (hr:nS r [40]) (n:Nat) : ∃ n',argsQ (pst (parK l++r) true n) = .ok (rgD cA l,pst r true n'):=by
 unfold argsQ parK
 by_cases h0:l.length=0
 . rw [if_pos h0,List.nil_append,if_neg (by rw [hr];decide)]
   rw [List.length_eq_zero_iff.1 h0]
   exact ⟨n,rfl⟩
 . have e:(1,[40])::(rgK argK l++[(1,[41])])++r=((1:Int),[(40:UInt8)])::(gK (fun i=>argK (gD l i)) 0 l.length++(1,[41])::r):=by simp [rgK]
   rw [if_neg h0,e,if_pos (zAg _ _ _ _),zAf (by decide)]
   have hlen:=zEN (fun i=>argK (gD l i)) (fun i=>by simp [argK]) l.length 0
   exact zIw h hw (by omega) l.length 0 _ r n (by omega) (by simp only [pst,List.length_map,List.length_cons,List.length_append];omega)
theorem nS_par {l:List D} {r:KS} {s:List UInt8} (h:([40]==s)=false) (hr:nS r s):nS (parK l++r) s:=by
 unfold parK
 split
 . exact hr
 . exact zAy (by simpa using h)
theorem zIh {l:List D} (h:dirsR l=true) (hw : ∀ i,wideD (gD l i)) : ∀ (m j f:Nat) (r:KS) (n:Nat),j+m=l.length->m<f->nS r [64]->nS r [40] ->
 ∃ n',dirsF f ((List.range j).map fun i=>cDir (gD l i)) (pst (gK (fun i=>dirK (gD l i)) j m++r) true n) = .ok (rgD cDir l,pst r true n')
 |_,_,0,_,_,_,hf,_,_=>by omega
 |0,j,f+1,r,n,hj,_,h1,_=>by
  have e:j=l.length:=by omega
  subst e
  unfold dirsF
  rw [zC6,List.nil_append,if_neg (by rw [h1];decide)]
  exact ⟨n,rfl⟩
 |m+1,j,f+1,r,n,hj,hf,h1,h2=>by
  obtain ⟨hl,ha⟩:=zF3 h
  have hj2:j<l.length:=by omega
  obtain ⟨n1,e1⟩:=zLV (ha j hj2).2 (fun i=>((hw j).f 1).l i) (r:=gK (fun i=>dirK (gD l i)) (j+1) m++r) (zJW (fun i r=>zAy (by decide)) h2) n
  obtain ⟨n',ih⟩:=zIh h hw m (j+1) f r n1 (by omega) (by omega) h1 h2
  refine ⟨n',?_⟩
  unfold dirsF
  rw [zDw,zB7,List.append_assoc]
  have e:dirK (gD l j)++(gK (fun i=>dirK (gD l i)) (j+1) m++r)=(1,[64])::(2,tx ((gD l j).f 0).s)::(parK ((gD l j).f 1).l++(gK (fun i=>dirK (gD l i)) (j+1) m++r)):=rfl
  rw [e,if_pos (zAg _ _ _ _),if_neg (by omega),zAf (by decide),zAs,then_ok_eq,e1,then_ok_eq]
  rw [List.range_succ,List.map_append] at ih
  exact ih
theorem zHa {l:List D} (h:dirsR l=true) (hw : ∀ i,wideD (gD l i)) {r:KS} (h1:nS r [64]) (h2:nS r [40]) (n:Nat) : ∃ n',dirsQ (pst (rgK dirK l++r) true n) = .ok (rgD cDir l,pst r true n'):=by
 unfold dirsQ
 have hlen:=zEN (fun i=>dirK (gD l i)) (fun i=>by simp [dirK]) l.length 0
 exact zIh h hw l.length 0 _ r n (by omega) (by simp only [pst,List.length_map,List.length_append,rgK];omega) h1 h2
theorem nS_dirs {l:List D} {r:KS} {s:List UInt8} (h:([64]==s)=false) (hr:nS r s):nS (rgK dirK l++r) s:=
 zJW (fun i r=>zAy (by simpa using h)) hr
def cSel (iC:List D->List D) (s:D):D:=selD (s.f 0).n (tx (s.f 1).s) (tx (s.f 2).s) (tx (s.f 3).s) (rgD cA (s.f 4).l) (rgD cDir (s.f 5).l) (iC (s.f 6).l)
def cSels:Nat->List D->List D
 |0,_=>[]
 |f+1,l=>rgD (cSel (cSels f)) l
theorem cSels_nil : ∀ f,cSels f []=[]
 |0=>rfl
 |_+1=>rfl
def selEnd (r:KS):Prop:=nS r [64]/\nS r [40]/\nS r [58]/\nS r [123]
theorem zHf (k r:KS) (s:List UInt8) (h:([123]==s)=false):nS (blkK k++r) s:=zAy (by simpa using h)
theorem blk_is (k r:KS) (v:Bool) (n:Nat):isS (pst (blkK k++r) v n) [123]=true:=zAg _ _ _ _
theorem sel_pst {sels:PS->PR (List D)} {iK:List D->KS} {iC:List D->List D} {s:D} {sub:List D->Nat->Prop} (h:SelF sub s) (hw:wideD s) (hi0:iC []=[])
 (hsub:(s.f 6).l.length≠0 -> ∀ r n,∃ n',sels (pst (blkK (iK (s.f 6).l)++r) true n) = .ok (iC (s.f 6).l,pst r true n')) (hin:(s.f 0).n=3->(s.f 6).l.length≠0) {r:KS} (hr:selEnd r) (n:Nat) :
 ∃ n',selQ sels (pst (selK iK s++r) true n) = .ok (cSel iC s,pst r true n'):=by
 obtain ⟨r1,r2,r3,r4⟩:=hr
 have hwd : ∀ i,wideD (gD (s.f 5).l i):=fun i=>(hw.f 5).l i
 have hwa : ∀ i,wideD (gD (s.f 4).l i):=fun i=>(hw.f 4).l i
 unfold selK
 by_cases k2:(s.f 0).n=2
 . obtain ⟨s1,s2,s3,s4,s5,s6⟩:=h.spread k2
   obtain ⟨n1,e1⟩:=zHa h.dirs hwd (r:=r) r1 r2 n
   rw [if_pos k2,List.cons_append,List.cons_append]
   unfold selQ
   rw [if_pos (zAg _ _ _ _),zAf (by decide)]
   dsimp only
   rw [zDe]
   dsimp only
   rw [if_pos ⟨rfl,s6⟩,zAf (by decide),e1,then_ok_eq]
   refine ⟨n1,?_⟩
   unfold cSel
   rw [k2,s1,s2,List.length_eq_zero_iff.1 s3,List.length_eq_zero_iff.1 s4,hi0,zJM]
 rw [if_neg k2]
 by_cases k3:(s.f 0).n=3
 . obtain ⟨s1,s2,s3,s4,-⟩:=h.inline k3
   obtain ⟨n1,e1⟩:=zHa h.dirs hwd (r:=blkK (iK (s.f 6).l)++r) (zHf _ _ _ (by decide)) (zHf _ _ _ (by decide)) n
   obtain ⟨n2,e2⟩:=hsub (hin k3) r n1
   rw [if_pos k3]
   by_cases e:tx (s.f 3).s=[]
   . have ea:(1,[46,46,46])::((if tx (s.f 3).s=[] then [] else [(2,onT),(2,tx (s.f 3).s)])++(rgK dirK (s.f 5).l++blkK (iK (s.f 6).l)))++r=((1:Int),[(46:UInt8),46,46])::(rgK dirK (s.f 5).l++(blkK (iK (s.f 6).l)++r)):=by
      rw [if_pos e];simp
     have hk:(hdT (pst (rgK dirK (s.f 5).l++(blkK (iK (s.f 6).l)++r)) true n)).k=1:=by
      unfold rgK
      cases hl:(s.f 5).l.length with
      |zero=>rfl
      |succ m=>rw [zB7];rfl
     rw [ea]
     unfold selQ
     rw [if_pos (zAg _ _ _ _),zAf (by decide)]
     dsimp only
     rw [if_neg (by rw [hk];simp),if_neg (by rw [hk];decide),then_ok_eq,e1,then_ok_eq,e2,then_ok_eq]
     refine ⟨n2,?_⟩
     unfold cSel
     rw [k3,s1,s2,e,List.length_eq_zero_iff.1 s3,zJM]
   . have ea:(1,[46,46,46])::((if tx (s.f 3).s=[] then [] else [(2,onT),(2,tx (s.f 3).s)])++(rgK dirK (s.f 5).l++blkK (iK (s.f 6).l)))++r=((1:Int),[(46:UInt8),46,46])::(2,onT)::(2,tx (s.f 3).s)::(rgK dirK (s.f 5).l++(blkK (iK (s.f 6).l)++r)):=by
      rw [if_neg e];simp
     rw [ea]
     unfold selQ
     rw [if_pos (zAg _ _ _ _),zAf (by decide)]
     dsimp only
     rw [zDe]
     dsimp only
     rw [if_neg (fun q=>q.2 rfl),if_pos rfl,zAf (by decide),zAs,then_ok_eq,e1,then_ok_eq,e2,then_ok_eq]
     refine ⟨n2,?_⟩
     unfold cSel
     rw [k3,s1,s2,List.length_eq_zero_iff.1 s3,zJM]
 rw [if_neg k3]
 have k1:(s.f 0).n=1:=by rcases h.kind with h' | h' | h';exact h';exact absurd h' k2;exact absurd h' k3
 obtain ⟨s1,s2,s3,-⟩:=h.field k1
 -- what stands behind the directives
 have hfin : ∀ n,∃ n',(thenQ (if isS (pst ((if (s.f 6).l.length=0 then [] else blkK (iK (s.f 6).l))++r) true n) [123]=true then sels (pst ((if (s.f 6).l.length=0 then [] else blkK (iK (s.f 6).l))++r) true n) else .ok ([],pst ((if (s.f 6).l.length=0 then [] else blkK (iK (s.f 6).l))++r) true n)) fun ss o=>(.ok (selD 1 (tx (s.f 1).s) (tx (s.f 2).s) [] (rgD cA (s.f 4).l) (rgD cDir (s.f 5).l) ss,o):PR D)) = .ok (cSel iC s,pst r true n'):=fun n=>by
  by_cases e:(s.f 6).l.length=0
  . rw [if_pos e,List.nil_append,if_neg (by rw [r4];decide),then_ok_eq]
    refine ⟨n,?_⟩
    unfold cSel
    rw [k1,s1,List.length_eq_zero_iff.1 e,hi0]
  . obtain ⟨n',e'⟩:=hsub e r n
    rw [if_neg e,if_pos (blk_is _ _ _ _),e',then_ok_eq]
    refine ⟨n',?_⟩
    unfold cSel
    rw [k1,s1]
 have hend : ∀ q,([123]==q)=false->nS r q->nS ((if (s.f 6).l.length=0 then [] else blkK (iK (s.f 6).l))++r) q:=fun q hq hq2=>by
  split
  . exact hq2
  . exact zHf _ _ _ hq
 have hd1:=hend [64] (by decide) r1
 have hd2:=hend [40] (by decide) r2
 have hd3:=hend [58] (by decide) r3
 generalize hZ:(if (s.f 6).l.length=0 then [] else blkK (iK (s.f 6).l))++r=Z at *
 obtain ⟨n1,e1⟩:=zLV h.args hwa (r:=rgK dirK (s.f 5).l++Z) (nS_dirs (by decide) hd2) n
 obtain ⟨n2,e2⟩:=zHa h.dirs hwd (r:=Z) hd1 hd2 n1
 obtain ⟨n3,e3⟩:=hfin n2
 refine ⟨n3,?_⟩
 have n58:nS (parK (s.f 4).l++(rgK dirK (s.f 5).l++Z)) [58]:=nS_par (by decide) (nS_dirs (by decide) hd3)
 by_cases e:tx (s.f 1).s=[]
 . have ea:(if tx (s.f 1).s=[] then [] else [(2,tx (s.f 1).s),(1,[58])])++((2,tx (s.f 2).s)::(parK (s.f 4).l++(rgK dirK (s.f 5).l++(if (s.f 6).l.length=0 then [] else blkK (iK (s.f 6).l)))))++r=(2,tx (s.f 2).s)::(parK (s.f 4).l++(rgK dirK (s.f 5).l++Z)):=by
    rw [if_pos e,<- hZ];simp
   rw [ea]
   rw [e] at e3
   unfold selQ
   rw [if_neg (by rw [zCr];simp),zAs,then_ok_eq,if_neg (by rw [n58];decide),then_ok_eq,e1,then_ok_eq,e2,then_ok_eq]
   exact e3
 . have ea:(if tx (s.f 1).s=[] then [] else [(2,tx (s.f 1).s),(1,[58])])++((2,tx (s.f 2).s)::(parK (s.f 4).l++(rgK dirK (s.f 5).l++(if (s.f 6).l.length=0 then [] else blkK (iK (s.f 6).l)))))++r=(2,tx (s.f 1).s)::(1,[58])::(2,tx (s.f 2).s)::(parK (s.f 4).l++(rgK dirK (s.f 5).l++Z)):=by
    rw [if_neg e,<- hZ];simp
   rw [ea]
   unfold selQ
   rw [if_neg (by rw [zCr];simp),zAs,then_ok_eq,if_pos (zAg _ _ _ _),zAf (by decide),zAs,then_ok_eq,then_ok_eq,e1,then_ok_eq,e2,then_ok_eq]
   exact e3
theorem zC0 (iK:List D->KS) (s:D) (r:KS) {t:List UInt8} (h:([46,46,46]==t)=false):nS (selK iK s++r) t:=by
 unfold selK
 split
 . exact zAy (by simpa using h)
 split
 . exact zAy (by simpa using h)
 . split
   . exact zAy (by simp)
   . exact zAy (by simp)
theorem selK_ne (iK:List D->KS) (s:D):1<=(selK iK s).length:=by
 unfold selK
 split
 . simp
 split
 . simp
 . simp
   omega
theorem zKL {sel:PS->PR D} {iK:List D->KS} {c:D->D} {l:List D} (hl:l.length<=64) (h0:0<l.length) (hs : ∀ i r n,i<l.length->selEnd r -> ∃ n',sel (pst (selK iK (gD l i)++r) true n) = .ok (c (gD l i),pst r true n')) :
 ∀ (m j f:Nat) (r:KS) (n:Nat),j+m=l.length->m<f -> ∃ n',setF sel f ((List.range j).map fun i=>c (gD l i)) (pst (gK (fun i=>selK iK (gD l i)) j m++(1,[125])::r) true n) = .ok (rgD c l,pst r true n')
 |_,_,0,_,_,_,hf=>by omega
 |0,j,f+1,r,n,hj,_=>by
  have e:j=l.length:=by omega
  subst e
  unfold setF
  rw [zDw,zC6,List.nil_append,if_pos ⟨by omega,zAg _ _ _ _⟩,zAf (by decide)]
  exact ⟨n,rfl⟩
 |m+1,j,f+1,r,n,hj,hf=>by
  have hj2:j<l.length:=by omega
  have hend:selEnd (gK (fun i=>selK iK (gD l i)) (j+1) m++(1,[125])::r):=
   ⟨zJW (fun i r=>zC0 _ _ _ (by decide)) (zAy (by decide)),zJW (fun i r=>zC0 _ _ _ (by decide)) (zAy (by decide)),
     zJW (fun i r=>zC0 _ _ _ (by decide)) (zAy (by decide)),zJW (fun i r=>zC0 _ _ _ (by decide)) (zAy (by decide))⟩
  obtain ⟨n1,e1⟩:=hs j _ n hj2 hend
  obtain ⟨n',ih⟩:=zKL hl h0 hs m (j+1) f r n1 (by omega) (by omega)
  refine ⟨n',?_⟩
  unfold setF
  rw [zDw,zB7,List.append_assoc,if_neg (fun q=>by have:=q.2;rw [zC0 iK (gD l j) _ (t:=[125]) (by decide)] at this;cases this),if_neg (fun q=>by omega),e1,then_ok_eq]
  rw [List.range_succ,List.map_append] at ih
  exact ih
def SDp:Nat->List D->Prop
 |0,l=>l=[]
 |f+1,l => ∀ i,i<l.length->SDp f ((gD l i).f 6).l
theorem SelsOk.sdp {K:Nat} : ∀ {f:Nat} {l:List D},SelsOk K f l->SDp f l
 |0,_,h=>h
 |_+1,_,h=>fun i hi=>SelsOk.sdp (h i hi).sub
theorem zKM : ∀ (f k lv F:Nat) (l:List D),SDp f l->SetF (fun d=>selR k lv d=true) lv l 1->(∀ i,wideD (gD l i))->F+lv=26 -> ∀ (r:KS) (n:Nat),∃ n',selsQ F lv (pst (blkK (selsK f l)++r) true n) = .ok (cSels f l,pst r true n')
 |0,_,_,_,l,h,hs,_,_,_,_=>by
  have h:l=[]:=h
  subst h
  exact absurd hs.1 (by simp)
 |f+1,k,lv,F,l,h,hs,hw,hF,r,n=>by
  obtain ⟨l1,l2,l3,l4⟩:=hs
  have hlv:lv<=24:=by omega
  obtain ⟨F,rfl⟩ : ∃ q,F=q+1:=⟨F-1,by omega⟩
  have hone : ∀ i r n,i<l.length->selEnd r -> ∃ n',selQ (selsQ F (lv+1)) (pst (selK (selsK f) (gD l i)++r) true n) = .ok (cSel (cSels f) (gD l i),pst r true n'):=fun i r n hi hr=>by
   have h4:=l4 i hi
   cases k with
   |zero=>cases h4
   |succ k =>
    have hs:=xsel h4
    refine sel_pst hs (hw i) (cSels_nil f) (fun hne r n => ?_) (fun e => ?_) hr n
    . have hset:SetF (fun d=>selR k (lv+1) d=true) (lv+1) ((gD l i).f 6).l 1:=by
       rcases hs.kind with e | e | e
       . have:=(hs.field e).2.2.2;exact ⟨by omega,this.2⟩
       . exact absurd (hs.spread e).2.2.2.1 hne
       . exact (hs.inline e).2.2.2.2
      exact zKM f k (lv+1) F _ (h i hi) hset (fun j=>((hw i).f 6).l j) (by omega) r n
    . have:=(hs.inline e).2.2.2.2.1;omega
  have hlen:=zEN (fun i=>selK (selsK f) (gD l i)) (fun i=>selK_ne _ _) l.length 0
  obtain ⟨n',e'⟩:=zKL (c:=cSel (cSels f)) l2 (by omega) hone l.length 0 ((gK (fun i=>selK (selsK f) (gD l i)) 0 l.length++(1,[125])::r).length+1) r n (by omega) (by rw [List.length_append];omega)
  refine ⟨n',?_⟩
  have ea:blkK (selsK (f+1) l)++r=(1,[123])::(gK (fun i=>selK (selsK f) (gD l i)) 0 l.length++(1,[125])::r):=by simp [blkK,selsK,rgK]
  rw [ea]
  unfold selsQ
  rw [if_neg (fun q=>by omega),zBX,then_ok_eq]
  rw [show (pst (gK (fun i=>selK (selsK f) (gD l i)) 0 l.length++(1,[125])::r) true n).ts.length=(gK (fun i=>selK (selsK f) (gD l i)) 0 l.length++(1,[125])::r).length by simp [pst]]
  exact e'
theorem zJF {f k:Nat} {l:List D} (h:SDp f l) (hs:SetF (fun d=>selR k 1 d=true) 1 l 1) (hw : ∀ i,wideD (gD l i)) (r:KS) (n:Nat) : ∃ n',setQ (pst (blkK (selsK f l)++r) true n) = .ok (cSels f l,pst r true n'):=
 zKM f k 1 25 l h hs hw rfl r n
def cVar (v:D):D:=varD (tx (v.f 0).s) (refD (tx ((v.f 1).f 0).s) (((v.f 1).f 1).l.map D.n)) (v.f 2).b (cL (v.f 3))
theorem zHq {l:List D} (h : ∀ i,i<l.length->VarF (gD l i)) (hl:l.length<=16) (hw : ∀ i,wideD (gD l i)) (h0:0<l.length) : ∀ (m j f:Nat) (r:KS) (n:Nat),j+m=l.length->m<f ->
 ∃ n',varsF f ((List.range j).map fun i=>cVar (gD l i)) (pst (gK (fun i=>varK (gD l i)) j m++(1,[41])::r) true n) = .ok (rgD cVar l,pst r true n')
 |_,_,0,_,_,_,hf=>by omega
 |0,j,f+1,r,n,hj,_=>by
  have e:j=l.length:=by omega
  subst e
  unfold varsF
  rw [zDw,zC6,List.nil_append,if_pos ⟨by omega,zAg _ _ _ _⟩,zAf (by decide)]
  exact ⟨n,rfl⟩
 |m+1,j,f+1,r,n,hj,hf=>by
  have hj2:j<l.length:=by omega
  have hv:=h j hj2
  have ih:=fun n=>zHq h hl hw h0 m (j+1) f r n (by omega) (by omega)
  have hrest : ∀ t,([36]==t)=false->([41]==t)=false->nS (gK (fun i=>varK (gD l i)) (j+1) m++(1,[41])::r) t:=fun t h1 h2=>zJW (fun i r=>zAy (by simpa using h1)) (zAy (by simpa using h2))
  have n33:=hrest [33] (by decide) (by decide)
  have n61:=hrest [61] (by decide) (by decide)
  rw [zB7,List.append_assoc]
  rw [List.range_succ,List.map_append] at ih
  generalize hZ:gK (fun i=>varK (gD l i)) (j+1) m++(1,[41])::r=Z at *
  unfold varsF
  rw [zDw]
  by_cases hb:((gD l j).f 2).b=true
  . obtain ⟨b1,b2⟩:=hv.has hb
    obtain ⟨n',e'⟩:=ih (sizeR (bulkD ((gD l j).f 3)) ((gD l j).f 3))
    refine ⟨n',?_⟩
    have ea:varK (gD l j)++Z=(1,[36])::(2,tx ((gD l j).f 0).s)::(1,[58])::(refK (tx (((gD l j).f 1).f 0).s) (((gD l j).f 1).f 1).l++((1,[61])::(litK ((gD l j).f 3)++Z))):=by
     unfold varK;rw [if_pos hb];simp
    rw [ea,if_neg (fun q=>by have:=q.2;rw [zCr] at this;simp at this),if_neg (fun q=>by omega),zBX,then_ok_eq,zAs,then_ok_eq,zBX,then_ok_eq,typ_pst hv.wraps hv.rlen (zAy (by decide)),then_ok_eq,if_pos (zAg _ _ _ _),zAf (by decide)]
    have ew:=zHm (d:=(gD l j).f 3) (r:=Z) (v:=false) (n:=n) b1 ((hw j).f 3) (fun _=>b2)
    rw [show ({ pst (litK ((gD l j).f 3)++Z) true n with vr:=false }:PS)=pst (litK ((gD l j).f 3)++Z) false n from rfl,ew,then_ok_eq,then_ok_eq]
    have ec:cVar (gD l j)=varD (tx ((gD l j).f 0).s) (refD (tx (((gD l j).f 1).f 0).s) ((((gD l j).f 1).f 1).l.map D.n)) true (cL ((gD l j).f 3)):=by unfold cVar;rw [hb]
    rw [List.map_cons,List.map_nil,ec] at e'
    exact e'
  . have hb2:((gD l j).f 2).b=false:=by simpa using hb
    obtain ⟨b1,b2,b3,b4,b5⟩:=hv.hasnt hb2
    obtain ⟨n',e'⟩:=ih n
    refine ⟨n',?_⟩
    have ea:varK (gD l j)++Z=(1,[36])::(2,tx ((gD l j).f 0).s)::(1,[58])::(refK (tx (((gD l j).f 1).f 0).s) (((gD l j).f 1).f 1).l++Z):=by
     unfold varK;rw [if_neg hb];simp
    rw [ea,if_neg (fun q=>by have:=q.2;rw [zCr] at this;simp at this),if_neg (fun q=>by omega),zBX,then_ok_eq,zAs,then_ok_eq,zBX,then_ok_eq,typ_pst hv.wraps hv.rlen n33,then_ok_eq,if_neg (by rw [n61];decide),then_ok_eq]
    have ec:cVar (gD l j)=varD (tx ((gD l j).f 0).s) (refD (tx (((gD l j).f 1).f 0).s) ((((gD l j).f 1).f 1).l.map D.n)) false zGF:=by
     unfold cVar
     rw [hb2]
     congr 1
     unfold cL
     obtain ⟨k,hk⟩ : ∃ k,bulkD ((gD l j).f 3)=k+1:=⟨bulkD ((gD l j).f 3)-1,by have:=zAj ((gD l j).f 3);omega⟩
     rw [hk,(zCl (k:=k) b4 b5).1,b1,b2,b3]
     rfl
    rw [List.map_cons,List.map_nil,ec] at e'
    exact e'
def cOp (f:Nat) (o:D):D:=opD (o.f 0).n (tx (o.f 1).s) (rgD cVar (o.f 2).l) (cSels f (o.f 3).l)
def zIr (f:Nat) (o:D):D:=zJh (tx (o.f 0).s) (tx (o.f 1).s) (cSels f (o.f 2).l)
def cDoc (f:Nat) (q:D):D:=queD (rgD (cOp f) (q.f 0).l) (rgD (zIr f) (q.f 1).l)
theorem word_kind {k:Int} (h:1<=k/\k<=3):zBw (zBc k)=k:=by
 have:k=1\/k=2\/k=3:=by omega
 rcases this with rfl | rfl | rfl<;>rfl
theorem op_pst {f:Nat} {o:D} (h:OpF o) (hd:SDp f (o.f 3).l) (hw:wideD o) (r:KS) (n:Nat) :
 ∃ n',opQ (o.f 0).n (pst ((if tx (o.f 1).s=[] then [] else [(2,tx (o.f 1).s)])++(varsK (o.f 2).l++(blkK (selsK f (o.f 3).l)++r))) true n) = .ok (cOp f o,pst r true n'):=by
 have hv : ∀ n,∃ n',(if isS (pst (varsK (o.f 2).l++(blkK (selsK f (o.f 3).l)++r)) true n) [40]=true then varsF (pst (varsK (o.f 2).l++(blkK (selsK f (o.f 3).l)++r)) true n).ts.length [] (nxT (pst (varsK (o.f 2).l++(blkK (selsK f (o.f 3).l)++r)) true n)) else .ok ([],pst (varsK (o.f 2).l++(blkK (selsK f (o.f 3).l)++r)) true n))=(.ok (rgD cVar (o.f 2).l,pst (blkK (selsK f (o.f 3).l)++r) true n'):PR (List D)):=fun n=>by
  unfold varsK
  by_cases h0:(o.f 2).l.length=0
  . rw [if_pos h0,List.nil_append,if_neg (by rw [zHf _ _ _ (by decide)];decide),List.length_eq_zero_iff.1 h0]
    exact ⟨n,rfl⟩
  . have e:(1,[40])::(rgK varK (o.f 2).l++[(1,[41])])++(blkK (selsK f (o.f 3).l)++r)=((1:Int),[(40:UInt8)])::(gK (fun i=>varK (gD (o.f 2).l i)) 0 (o.f 2).l.length++(1,[41])::(blkK (selsK f (o.f 3).l)++r)):=by simp [rgK]
    have hlen:=zEN (fun i=>varK (gD (o.f 2).l i)) (fun i=>by simp [varK]) (o.f 2).l.length 0
    rw [if_neg h0,e,if_pos (zAg _ _ _ _),zAf (by decide)]
    exact zHq h.vars h.vlen (fun i=>(hw.f 2).l i) (by omega) _ 0 _ _ n (by omega) (by simp only [pst,List.length_map,List.length_cons,List.length_append];omega)
 have key : ∀ n,∃ n',(thenQ (if isS (pst (varsK (o.f 2).l++(blkK (selsK f (o.f 3).l)++r)) true n) [40]=true then varsF (pst (varsK (o.f 2).l++(blkK (selsK f (o.f 3).l)++r)) true n).ts.length [] (nxT (pst (varsK (o.f 2).l++(blkK (selsK f (o.f 3).l)++r)) true n)) else .ok ([],pst (varsK (o.f 2).l++(blkK (selsK f (o.f 3).l)++r)) true n)) fun vs z=>thenQ (setQ z) fun ss u=>(.ok (opD (o.f 0).n (tx (o.f 1).s) vs ss,u):PR D)) = .ok (cOp f o,pst r true n'):=fun n=>by
  obtain ⟨n1,e1⟩:=hv n
  obtain ⟨n2,e2⟩:=zJF hd h.sels (fun i=>(hw.f 3).l i) r n1
  rw [e1,then_ok_eq,e2,then_ok_eq]
  exact ⟨n2,rfl⟩
 unfold opQ
 by_cases e:tx (o.f 1).s=[]
 . have hk:(hdT (pst (varsK (o.f 2).l++(blkK (selsK f (o.f 3).l)++r)) true n)).k=1:=by
    unfold varsK
    split<;>rfl
   obtain ⟨n',e'⟩:=key n
   rw [if_pos e,List.nil_append,if_neg (by rw [hk];decide),then_ok_eq]
   rw [e] at e'
   exact ⟨n',e'⟩
 . obtain ⟨n',e'⟩:=key n
   rw [if_neg e,List.cons_append,List.nil_append,zDe,if_pos rfl,zAf (by decide),then_ok_eq]
   exact ⟨n',e'⟩
theorem frag_pst {f:Nat} {o:D} (h:FragF o) (hd:SDp f (o.f 2).l) (hw:wideD o) (r:KS) (n:Nat) :
 ∃ n',fragQ (pst ((2,tx (o.f 0).s)::(2,onT)::(2,tx (o.f 1).s)::(blkK (selsK f (o.f 2).l)++r)) true n) = .ok (zIr f o,pst r true n'):=by
 obtain ⟨n2,e2⟩:=zJF hd h.sels (fun i=>(hw.f 2).l i) r n
 unfold fragQ
 rw [zDe]
 dsimp only
 rw [if_neg (show ¬ tx (o.f 0).s=onT from h.notOn),zAs,then_ok_eq,zDe,if_pos ⟨rfl,rfl⟩,zAf (by decide),zAs,then_ok_eq,e2,then_ok_eq]
 exact ⟨n2,rfl⟩
theorem opK_ne (f:Nat) (o:D):1<=(opK f o).length:=by
 unfold opK
 split<;>simp [blkK]
theorem frgK_ne (f:Nat) (o:D):1<=(frgK f o).length:=by simp [frgK]
structure QuePs (f:Nat) (q:D):Prop where
 right:QueF q
 wide:wideD q
 ops : ∀ i,i<(q.f 0).l.length->SDp f ((gD (q.f 0).l i).f 3).l
 frags : ∀ i,i<(q.f 1).l.length->SDp f ((gD (q.f 1).l i).f 2).l
theorem zGq {f:Nat} {q:D} (h:QuePs f q) : ∀ (m j F:Nat) (n:Nat),j+m=(q.f 1).l.length->m<F ->
 ∃ z,docF F ((q.f 0).l.length+j) (rgD (cOp f) (q.f 0).l) ((List.range j).map fun i=>zIr f (gD (q.f 1).l i)) (pst (gK (fun i=>frgK f (gD (q.f 1).l i)) j m++[endK5]) true n) = .ok ((rgD (cOp f) (q.f 0).l,rgD (zIr f) (q.f 1).l),z)
 |_,_,0,_,_,hf=>by omega
 |0,j,F+1,n,hj,_=>by
  have e:j=(q.f 1).l.length:=by omega
  subst e
  have hl:=h.right.len
  unfold docF
  rw [zC6,List.nil_append,if_pos ⟨by omega,rfl⟩]
  exact ⟨_,rfl⟩
 |m+1,j,F+1,n,hj,hf=>by
  have hj2:j<(q.f 1).l.length:=by omega
  have hl:=h.right.len
  obtain ⟨n1,e1⟩:=frag_pst (h.right.frags j hj2) (h.frags j hj2) ((h.wide.f 1).l j) (gK (fun i=>frgK f (gD (q.f 1).l i)) (j+1) m++[endK5]) n
  obtain ⟨z,ih⟩:=zGq h m (j+1) F n1 (by omega) (by omega)
  refine ⟨z,?_⟩
  have ea:gK (fun i=>frgK f (gD (q.f 1).l i)) j (m+1)++[endK5]=(2,zIW)::(2,tx ((gD (q.f 1).l j).f 0).s)::(2,onT)::(2,tx ((gD (q.f 1).l j).f 1).s)::(blkK (selsK f ((gD (q.f 1).l j).f 2).l)++(gK (fun i=>frgK f (gD (q.f 1).l i)) (j+1) m++[endK5])):=by
   rw [zB7];simp [frgK]
  unfold docF
  rw [ea,zDe]
  dsimp only
  rw [if_neg (fun q=>by have:=q.2;simp at this),if_neg (fun q=>q.1 ⟨rfl,.inr rfl⟩),if_neg (by omega),if_neg (fun q=>q ⟨rfl,.inr rfl⟩),if_neg (by decide),zAf (by decide),e1,then_ok_eq]
  rw [List.range_succ,List.map_append] at ih
  exact ih
theorem zHZ {f:Nat} {q:D} (h:QuePs f q) : ∀ (m j F:Nat) (n:Nat),j+m=(q.f 0).l.length->m+(q.f 1).l.length<F ->
 ∃ z,docF F j ((List.range j).map fun i=>cOp f (gD (q.f 0).l i)) [] (pst (gK (fun i=>opK f (gD (q.f 0).l i)) j m++(rgK (frgK f) (q.f 1).l++[endK5])) true n) = .ok ((rgD (cOp f) (q.f 0).l,rgD (zIr f) (q.f 1).l),z)
 |_,_,0,_,_,hf=>by omega
 |0,j,F+1,n,hj,hF=>by
  have e:j=(q.f 0).l.length:=by omega
  subst e
  rw [zC6,List.nil_append]
  have:=zGq h (q.f 1).l.length 0 (F+1) n (by omega) (by omega)
  exact this
 |m+1,j,F+1,n,hj,hf=>by
  have hj2:j<(q.f 0).l.length:=by omega
  have hl:=h.right.len
  have ho:=h.right.ops j hj2
  rw [zB7,List.append_assoc]
  by_cases ha:((gD (q.f 0).l j).f 0).n=1/\tx ((gD (q.f 0).l j).f 1).s=[]/\((gD (q.f 0).l j).f 2).l.length=0
  . obtain ⟨n1,e1⟩:=zJF (h.ops j hj2) ho.sels (fun i=>(((h.wide.f 0).l j).f 3).l i) (gK (fun i=>opK f (gD (q.f 0).l i)) (j+1) m++(rgK (frgK f) (q.f 1).l++[endK5])) n
    obtain ⟨z,ih⟩:=zHZ h m (j+1) F n1 (by omega) (by omega)
    refine ⟨z,?_⟩
    have ea:opK f (gD (q.f 0).l j)=blkK (selsK f ((gD (q.f 0).l j).f 3).l):=by unfold opK;rw [if_pos ha]
    have hk : ∀ Z,hdT (pst (blkK (selsK f ((gD (q.f 0).l j).f 3).l)++Z) true n)=⟨1,[123],0⟩:=fun Z=>rfl
    unfold docF
    rw [ea,hk]
    dsimp only
    rw [if_neg (fun q=>by have:=q.2;simp at this),if_neg (fun q=>q.2 (blk_is _ _ _ _)),if_neg (by omega),if_pos (fun q=>by have:=q.1;simp at this),e1,then_ok_eq]
    rw [List.range_succ,List.map_append,List.map_cons,List.map_nil] at ih
    have ec:cOp f (gD (q.f 0).l j)=opD 1 [] [] (cSels f ((gD (q.f 0).l j).f 3).l):=by
     unfold cOp
     rw [ha.1,ha.2.1,List.length_eq_zero_iff.1 ha.2.2];rfl
    rw [ec] at ih
    exact ih
  . obtain ⟨n1,e1⟩:=op_pst ho (h.ops j hj2) ((h.wide.f 0).l j) (gK (fun i=>opK f (gD (q.f 0).l i)) (j+1) m++(rgK (frgK f) (q.f 1).l++[endK5])) n
    obtain ⟨z,ih⟩:=zHZ h m (j+1) F n1 (by omega) (by omega)
    refine ⟨z,?_⟩
    have ea:opK f (gD (q.f 0).l j)++(gK (fun i=>opK f (gD (q.f 0).l i)) (j+1) m++(rgK (frgK f) (q.f 1).l++[endK5]))=(2,zBc ((gD (q.f 0).l j).f 0).n)::((if tx ((gD (q.f 0).l j).f 1).s=[] then [] else [(2,tx ((gD (q.f 0).l j).f 1).s)])++(varsK ((gD (q.f 0).l j).f 2).l++(blkK (selsK f ((gD (q.f 0).l j).f 3).l)++(gK (fun i=>opK f (gD (q.f 0).l i)) (j+1) m++(rgK (frgK f) (q.f 1).l++[endK5]))))):=by
     unfold opK;rw [if_neg ha];simp
    have hk:=word_kind ho.kind
    have hkp:0<zBw (zBc ((gD (q.f 0).l j).f 0).n):=by rw [hk];have:=ho.kind;omega
    unfold docF
    rw [ea,zDe]
    dsimp only
    rw [if_neg (fun q=>by have:=q.2;simp at this),if_neg (fun q=>q.1 ⟨rfl,.inl hkp⟩),if_neg (by omega),if_neg (fun q=>q ⟨rfl,.inl hkp⟩),if_pos hkp,zAf (by decide),hk,e1,then_ok_eq]
    rw [List.range_succ,List.map_append] at ih
    exact ih
theorem doc_pst {f:Nat} {q:D} (h:QuePs f q) : ∃ z,docQ ((docK f q++[endK5]).map mkT) = .ok ((rgD (cOp f) (q.f 0).l,rgD (zIr f) (q.f 1).l),z):=by
 have h1:=zEN (fun i=>opK f (gD (q.f 0).l i)) (fun i=>opK_ne _ _) (q.f 0).l.length 0
 have h2:=zEN (fun i=>frgK f (gD (q.f 1).l i)) (fun i=>frgK_ne _ _) (q.f 1).l.length 0
 have:=zHZ h (q.f 0).l.length 0 (((docK f q++[endK5]).map mkT).length+1) 0 (by omega) (by
  simp only [docK,rgK,List.length_map,List.length_append];omega)
 unfold docQ
 rw [show gK (fun i=>opK f (gD (q.f 0).l i)) 0 (q.f 0).l.length++(rgK (frgK f) (q.f 1).l++[endK5])=docK f q++[endK5] by simp [docK,rgK]] at this
 exact this
theorem parse_docT {K f:Nat} {q:D} (hq:queR q=true) (hd:DocOk K f q) (hlen:(docT K (f+1) q).length<=65536):zIH (docT K (f+1) q) = .ok (cDoc (f+1) q):=by
 have hF:=xque hq
 have hps:=docT_ps hF hd.vars hd.sels hd.frag
 have hlex:Lex (docT K (f+1) q) (docK (f+1) q):=by
  have:=hps [] [] (.done rfl)
  rwa [List.append_nil,List.append_nil] at this
 obtain ⟨ts,h1,h2⟩:=hlex.scan ((docT K (f+1) q).length+1) 0 (by omega)
 obtain ⟨z,h3⟩:=doc_pst (f:=f+1) (q:=q) ⟨hF,hd.wide,fun i hi=>(hd.sels i hi).sdp,fun i hi=>(hd.frag i hi).sdp⟩
 obtain ⟨z',h4⟩:=(doc_like (ts:=(docK (f+1) q++[endK5]).map mkT) (ts':=ts) (by rw [h2,List.map_map];exact (List.map_id _).symm)).1 _ _ h3
 unfold zIH zEA
 rw [if_neg (by omega),h1]
 dsimp only
 rw [h4]
 rfl
end
section
open Go.RowKit
theorem zBo {k:Nat} {d:D} (h:Fits Tryz.prog k 9 d) : ∃ s,d = .str s:=by
 cases k with
 |zero=>exact h.elim
 |succ k=>unfold Fits at h;rw [Tryz.underlying9] at h;exact h
theorem zGh {k:Nat} {d:D} (h:Fits Tryz.prog k 3 d) : ∃ n,d = .int n:=by
 cases k with
 |zero=>exact h.elim
 |succ k=>unfold Fits at h;rw [Tryz.underlying3] at h;exact h
theorem fits_b {k:Nat} {d:D} (h:Fits Tryz.prog k 4 d) : ∃ n,d = .bool n:=by
 cases k with
 |zero=>exact h.elim
 |succ k=>unfold Fits at h;rw [Tryz.underlying4] at h;exact h
theorem zBp {P:Program} {t e:TypeId} (hu:P.underlying t=some (.slice e)) {k:Nat} {d:D} (h:Fits P k t d) : ∃ j l,d = .list l /\ ∀ i,i<l.length->Fits P j e (gD l i):=by
 cases k with
 |zero=>exact h.elim
 |succ k=>unfold Fits at h;rw [hu] at h;exact ⟨k,h⟩
theorem zCa {P:Program} {t:TypeId} {fs:Array Field} (hu:P.underlying t=some (.struct fs)) {k:Nat} {d:D} (h:Fits P k t d) : ∃ j l,d = .obj l/\l.length=fs.size /\ ∀ i f,fs[i]? = some f->Fits P j f.type (gD l i):=by
 cases k with
 |zero=>exact h.elim
 |succ k=>unfold Fits at h;rw [hu] at h;exact ⟨k,h⟩
theorem len2 {l:List D} (h:l.length=2):l=[gD l 0,gD l 1]:=by
 match l,h with
 |[a,b],_=>rfl
theorem len3 {l:List D} (h:l.length=3):l=[gD l 0,gD l 1,gD l 2]:=by
 match l,h with
 |[a,b,c],_=>rfl
theorem len4 {l:List D} (h:l.length=4):l=[gD l 0,gD l 1,gD l 2,gD l 3]:=by
 match l,h with
 |[a,b,c,d],_=>rfl
theorem len5 {l:List D} (h:l.length=5):l=[gD l 0,gD l 1,gD l 2,gD l 3,gD l 4]:=by
 match l,h with
 |[a,b,c,d,e],_=>rfl
theorem len7 {l:List D} (h:l.length=7):l=[gD l 0,gD l 1,gD l 2,gD l 3,gD l 4,gD l 5,gD l 6]:=by
 match l,h with
 |[a,b,c,d,e,f,g],_=>rfl
theorem zCq (s:ByteArray):strD (tx s) = .str s:=by unfold strD tx;simp
theorem zED {c:D->D} {l:List D} (h : ∀ i,i<l.length->c (gD l i)=gD l i):rgD c l=l:=by
 unfold rgD
 apply List.ext_getElem (by simp)
 intro i h1 h2
 have:=h i h2
 rw [zAQ h2] at this
 simp [zAQ h2,this]
theorem zIM {c:D->D} {l:List D} (h : ∀ i,i<l.length->c (gD l i)=gD l i):l.map c=l:=by
 have:=zED h
 unfold rgD at this
 have e:l.map c=(List.range l.length).map fun i=>c (gD l i):=by
  apply List.ext_getElem (by simp)
  intro i h1 h2
  simp [zAQ (l:=l) (i:=i) (by simpa using h1)]
 rw [e,this]
theorem cnV_id : ∀ (k:Nat) {j:Nat} {d:D},Fits Tryz.prog j 84 d->cnV k d=d
 |0,_,_,_=>rfl
 |k+1,j,d,h=>by
  obtain ⟨j,l,rfl,hl,hf⟩:=zCa Tryz.underlying84 h
  have hl:l.length=5:=hl
  obtain ⟨n0,e0⟩:=zGh (hf 0 _ rfl)
  obtain ⟨n1,e1⟩:=zGh (hf 1 _ rfl)
  obtain ⟨s2,e2⟩:=zBo (hf 2 _ rfl)
  obtain ⟨j3,l3,e3,h3⟩:=zBp Tryz.underlying82 (hf 3 _ rfl)
  obtain ⟨j4,l4,e4,h4⟩:=zBp Tryz.underlying22 (hf 4 _ rfl)
  rw [len5 hl,e0,e1,e2,e3,e4]
  show valD n0 n1 (tx s2) ((List.range l3.length).map fun i=>cnV k (gD l3 i)) (l4.map fun x=>x.s.data.toList)=_
  have a:((List.range l3.length).map fun i=>cnV k (gD l3 i))=l3:=zED fun i hi=>cnV_id k (h3 i hi)
  have b:(l4.map fun x=>x.s.data.toList).map strD=l4:=by
   rw [List.map_map]
   refine zIM fun i hi => ?_
   obtain ⟨s,e⟩:=zBo (h4 i hi)
   rw [e]
   exact zCq s
  unfold valD
  rw [a,b,zCq]
theorem cL_id {j:Nat} {d:D} (h:Fits Tryz.prog j 84 d):cL d=d:=cnV_id _ h
theorem cA_id {j:Nat} {d:D} (h:Fits Tryz.prog j 86 d):cA d=d:=by
 obtain ⟨j,l,rfl,hl,hf⟩:=zCa Tryz.underlying86 h
 have hl:l.length=2:=hl
 obtain ⟨s0,e0⟩:=zBo (hf 0 _ rfl)
 have h1:Fits Tryz.prog j 84 (gD l 1):=hf 1 _ rfl
 rw [len2 hl,e0]
 show argD (tx s0) (cL (gD l 1))=_
 rw [cL_id h1]
 unfold argD
 rw [zCq]
theorem cDir_id {j:Nat} {d:D} (h:Fits Tryz.prog j 150 d):cDir d=d:=by
 obtain ⟨j,l,rfl,hl,hf⟩:=zCa Tryz.underlying150 h
 have hl:l.length=2:=hl
 obtain ⟨s0,e0⟩:=zBo (hf 0 _ rfl)
 obtain ⟨j1,l1,e1,h1⟩:=zBp Tryz.underlying69 (hf 1 _ rfl)
 rw [len2 hl,e0,e1]
 show dirD (tx s0) (rgD cA l1)=_
 rw [zED fun i hi=>cA_id (h1 i hi)]
 unfold dirD
 rw [zCq]
theorem zHd : ∀ (f:Nat) {j:Nat} {l:List D},SDp f l->(∀ i,i<l.length->Fits Tryz.prog j 76 (gD l i))->cSels f l=l
 |0,_,l,h,_=>by
  have h:l=[]:=h
  subst h;rfl
 |f+1,j,l,hd,h=>by
  refine zED fun i hi => ?_
  have hs:=hd i hi
  obtain ⟨j,q,eq,hl,hf⟩:=zCa Tryz.underlying76 (h i hi)
  rw [eq] at hs |-
  have hl:q.length=7:=hl
  obtain ⟨n0,e0⟩:=zGh (hf 0 _ rfl)
  obtain ⟨s1,e1⟩:=zBo (hf 1 _ rfl)
  obtain ⟨s2,e2⟩:=zBo (hf 2 _ rfl)
  obtain ⟨s3,e3⟩:=zBo (hf 3 _ rfl)
  obtain ⟨j4,l4,e4,h4⟩:=zBp Tryz.underlying69 (hf 4 _ rfl)
  obtain ⟨j5,l5,e5,h5⟩:=zBp Tryz.underlying74 (hf 5 _ rfl)
  obtain ⟨j6,l6,e6,h6⟩:=zBp Tryz.underlying55 (hf 6 _ rfl)
  have hs:SDp f ((gD q 6).l):=hs
  rw [e6] at hs
  have hs:SDp f l6:=hs
  rw [len7 hl,e0,e1,e2,e3,e4,e5,e6]
  show selD n0 (tx s1) (tx s2) (tx s3) (rgD cA l4) (rgD cDir l5) (cSels f l6)=_
  rw [zED fun i hi=>cA_id (h4 i hi),zED fun i hi=>cDir_id (h5 i hi),zHd f hs h6]
  unfold selD
  rw [zCq,zCq,zCq]
theorem cVar_id {j:Nat} {d:D} (h:Fits Tryz.prog j 88 d):cVar d=d:=by
 obtain ⟨j,l,rfl,hl,hf⟩:=zCa Tryz.underlying88 h
 have hl:l.length=4:=hl
 obtain ⟨s0,e0⟩:=zBo (hf 0 _ rfl)
 obtain ⟨j1,l1,e1,hl1,hf1⟩:=zCa Tryz.underlying71 (hf 1 _ rfl)
 have hl1:l1.length=2:=hl1
 obtain ⟨b2,e2⟩:=fits_b (hf 2 _ rfl)
 have h3:Fits Tryz.prog j 84 (gD l 3):=hf 3 _ rfl
 obtain ⟨s1,e10⟩:=zBo (hf1 0 _ rfl)
 obtain ⟨j2,w1,e11,hw1⟩:=zBp Tryz.underlying32 (hf1 1 _ rfl)
 rw [len4 hl,e0,e1,e2,len2 hl1,e10,e11]
 show varD (tx s0) (refD (tx s1) (w1.map D.n)) b2 (cL (gD l 3))=_
 have b:(w1.map D.n).map D.int=w1:=by
  rw [List.map_map]
  refine zIM fun i hi => ?_
  obtain ⟨n,e⟩:=zGh (hw1 i hi)
  rw [e];rfl
 rw [cL_id h3]
 unfold varD refD
 rw [zCq,zCq,b]
theorem cDoc_id {f:Nat} {j:Nat} {d:D} (h:Fits Tryz.prog j 41 d) (ho : ∀ i,i<(d.f 0).l.length->SDp f ((gD (d.f 0).l i).f 3).l) (hg : ∀ i,i<(d.f 1).l.length->SDp f ((gD (d.f 1).l i).f 2).l):cDoc f d=d:=by
 obtain ⟨j,l,rfl,hl,hf⟩:=zCa Tryz.underlying41 h
 have hl:l.length=2:=hl
 obtain ⟨j0,l0,e0,h0⟩:=zBp Tryz.underlying38 (hf 0 _ rfl)
 obtain ⟨j1,l1,e1,h1⟩:=zBp Tryz.underlying39 (hf 1 _ rfl)
 have ho : ∀ i,i<(gD l 0).l.length->SDp f ((gD (gD l 0).l i).f 3).l:=ho
 have hg : ∀ i,i<(gD l 1).l.length->SDp f ((gD (gD l 1).l i).f 2).l:=hg
 rw [e0] at ho
 rw [e1] at hg
 rw [len2 hl,e0,e1]
 show queD (rgD (cOp f) l0) (rgD (zIr f) l1)=_
 have a:rgD (cOp f) l0=l0:=zED fun i hi=>by
  have hs:=ho i hi
  obtain ⟨j,q,eq,hl,hf⟩:=zCa Tryz.underlying57 (h0 i hi)
  have hs:SDp f ((gD l0 i).f 3).l:=hs
  rw [eq] at hs |-
  have hl:q.length=4:=hl
  obtain ⟨n0,e0⟩:=zGh (hf 0 _ rfl)
  obtain ⟨s1,e1⟩:=zBo (hf 1 _ rfl)
  obtain ⟨j2,l2,e2,h2⟩:=zBp Tryz.underlying54 (hf 2 _ rfl)
  obtain ⟨j3,l3,e3,h3⟩:=zBp Tryz.underlying55 (hf 3 _ rfl)
  have hs:SDp f ((gD q 3).l):=hs
  rw [e3] at hs
  have hs:SDp f l3:=hs
  rw [len4 hl,e0,e1,e2,e3]
  show opD n0 (tx s1) (rgD cVar l2) (cSels f l3)=_
  rw [zED fun i hi=>cVar_id (h2 i hi),zHd f hs h3]
  unfold opD
  rw [zCq]
 have b:rgD (zIr f) l1=l1:=zED fun i hi=>by
  have hs:=hg i hi
  obtain ⟨j,q,eq,hl,hf⟩:=zCa Tryz.underlying116 (h1 i hi)
  have hs:SDp f ((gD l1 i).f 2).l:=hs
  rw [eq] at hs |-
  have hl:q.length=3:=hl
  obtain ⟨s0,e0⟩:=zBo (hf 0 _ rfl)
  obtain ⟨s1,e1⟩:=zBo (hf 1 _ rfl)
  obtain ⟨j2,l2,e2,h2⟩:=zBp Tryz.underlying55 (hf 2 _ rfl)
  have hs:SDp f ((gD q 2).l):=hs
  rw [e2] at hs
  have hs:SDp f l2:=hs
  rw [len3 hl,e0,e1,e2]
  show zJh (tx s0) (tx s1) (cSels f l2)=_
  rw [zHd f hs h2]
  unfold zJh
  rw [zCq,zCq]
 rw [a,b]
 rfl
end
section
theorem good_of : ∀ (K m:Nat) (d:D),everyL m d=true->goodV K d
 |0,_,_,_=>trivial
 |K+1,0,_,h=>by cases h
 |K+1,m+1,d,h=>by
  obtain ⟨hn,hi⟩:=zEp h
  exact ⟨hn.bool,fun i hl=>good_of K m _ (hi i hl)⟩
theorem zKk {K:Nat} {d:D} (h:litR d=true):goodV K d:=by
 unfold litR at h
 rw [Bool.and_eq_true] at h
 exact good_of K _ d h.2
theorem zCS {l:List D} {i:Nat} (h:i<l.length) (j:Nat):bulkD ((gD l i).f j)<=bulkL l/\bulkL ((gD l i).f j).l<=bulkL l:=by
 have h1:=zu h
 have h2:=wD_f (gD l i) j
 have h3:=zW (gD l i)
 have h4:=zW ((gD l i).f j)
 have h5:=zr ((gD l i).f j)
 omega
section
variable {K:Nat} (hK:8388608<=K)
include hK
theorem zIv {l:List D} (h:argsR l=true) (hw : ∀ i,wideD (gD l i)) (hb:bulkL l<=8388608):ArgsOk K l:=
 ⟨hw,hb,fun i hi=>zDq K _ (by have:=(zCS hi 1).1;omega),fun i hi=>zKk ((zEW h).2 i hi).2⟩
theorem dirsOk_of {l:List D} (h:dirsR l=true) (hw : ∀ i,wideD (gD l i)) (hb:bulkL l<=8388608):DirsOk K l:=
 ⟨hw,hb,fun i hi=>zIv hK ((zF3 h).2 i hi).2 (fun q=>((hw i).f 1).l q) (by have:=(zCS hi 1).2;omega)⟩
theorem zFe : ∀ (f k lv:Nat) (l:List D),(∀ i,i<l.length->selR k lv (gD l i)=true)->(l.length=0\/lv<=24)->25<=f+lv->(∀ i,wideD (gD l i))->bulkL l<=8388608->SelsOk K f l
 |0,_,lv,l,_,h1,h2,_,_=>by
  show l=[]
  rcases h1 with h1 | h1
  . exact List.length_eq_zero_iff.1 h1
  . omega
 |f+1,k,lv,l,h,h1,h2,hw,hb=>fun i hi=>by
  have h3:=h i hi
  cases k with
  |zero=>cases h3
  |succ k =>
   have hs:=xsel h3
   refine ⟨zIv hK hs.args (fun q=>((hw i).f 4).l q) (by have:=(zCS hi 4).2;omega),dirsOk_of hK hs.dirs (fun q=>((hw i).f 5).l q) (by have:=(zCS hi 5).2;omega),?_,?_⟩
   . rcases hs.kind with e | e | e
     . exact .inl e
     . exact .inr (.inl ⟨e,List.length_eq_zero_iff.1 (hs.spread e).2.2.2.1⟩)
     . refine .inr (.inr ⟨e,fun q => ?_⟩)
       have:=(hs.inline e).2.2.2.2.1
       rw [q] at this
       simp at this
   . have hsub:(∀ j,j<((gD l i).f 6).l.length->selR k (lv+1) (gD ((gD l i).f 6).l j)=true)/\(((gD l i).f 6).l.length=0\/lv+1<=24):=by
      rcases hs.kind with e | e | e
      . have:=(hs.field e).2.2.2
        exact ⟨this.2.2.2,this.2.2.1⟩
      . have:=(hs.spread e).2.2.2.1
        exact ⟨fun j hj=>by omega,.inl this⟩
      . have:=(hs.inline e).2.2.2.2
        exact ⟨this.2.2.2,this.2.2.1⟩
     exact zFe f k (lv+1) _ hsub.1 hsub.2 (by omega) (fun q=>((hw i).f 6).l q) (by have:=(zCS hi 6).2;omega)
theorem varsOk_of {l:List D} (h : ∀ i,i<l.length->VarF (gD l i)) (hw : ∀ i,wideD (gD l i)) (hb:bulkL l<=8388608):VarsOk K l:=
 ⟨hw,hb,fun i hi=>zDq K _ (by have:=(zCS hi 3).1;omega),fun i hi=>by
   cases e:((gD l i).f 2).b with
   |true=>exact zKk ((h i hi).has e).1
   |false =>
    obtain ⟨h1,-,-,h4,-⟩:=(h i hi).hasnt e
    cases K with
    |zero=>trivial
    |succ K=>exact ⟨fun q=>by omega,fun j hj=>by omega⟩⟩
end
theorem zLE {q:D} (h:queR q=true) (hw:wideD q) (hb:bulkD q<=8388608):DocOk 8388608 24 q:=by
 have hq:=xque h
 have h0:=wD_f q 0
 have h1:=wD_f q 1
 have h2:=zr (q.f 0)
 have h3:=zr (q.f 1)
 have h4:=zW q
 refine ⟨hw,hb,by omega,fun i hi => ?_,fun i hi => ?_,fun i hi => ?_⟩
 . exact varsOk_of (Nat.le_refl _) (hq.ops i hi).vars (fun z=>(((hw.f 0).l i).f 2).l z) (by have:=(zCS hi 2).2;omega)
 . exact zFe (Nat.le_refl _) 25 _ 1 _ (hq.ops i hi).sels.2.2.2 (.inr (by omega)) (by omega) (fun z=>(((hw.f 0).l i).f 3).l z) (by have:=(zCS hi 3).2;omega)
 . exact zFe (Nat.le_refl _) 25 _ 1 _ (hq.frags i hi).sels.2.2.2 (.inr (by omega)) (by omega) (fun z=>(((hw.f 1).l i).f 2).l z) (by have:=(zCS hi 2).2;omega)
end
section
open Go.RowKit
attribute [local irreducible] wpList Calls Code.wp
def sg0 (W:World):Sg:=⟨fun b o=>(W.cell? ⟨b,o,none⟩).isSome,fun _=>none,fun _=>none,fun _=>(undef,0)⟩
theorem zG1 {P:Program} {w:World} {n:String} {g:Nat} {cs:Array Value} (hg:P.globalNamed n=some g) (h:w.var? P n=some cs):g+1<=w.heap.size:=by
 unfold World.var? at h
 rw [hg] at h
 simp only [Option.bind_some] at h
 rcases Nat.lt_or_ge g w.heap.size with h' | h'
 . exact h'
 . rw [Array.getElem?_eq_none h'] at h;cases h
theorem en5_of {W:World} (h:Env W):EN5.E W:=by
 obtain ⟨h1,⟨tp,p,h2⟩,⟨tp',p',h3⟩⟩:=id h
 have a1:=zG1 gPow h1
 have a2:=zG1 gErrR h2
 have a3:=zG1 gErrS h3
 exact ⟨h,Nat.max_le.2 ⟨a1,Nat.max_le.2 ⟨a2,a3⟩⟩⟩
theorem zIq {f:FuncId} {args:List V} {W:World} {us:Array Value} (h:AC EN5 Tryz.prog f args (.c (.bool true))) (hr:relL Tryz.prog (sg0 W) W args us.toList) (he:Env W):Calls Tryz.prog f us W fun e W'=>e = .returned (.bool true)/\Below W.heap.size W W':=by
 refine (h (sg0 W) W us hr (fun b o h=>h) (en5_of he)).mono ?_
 rintro e W' ⟨v,F',rfl,hfr,-,-,-,hv⟩
 rw [rel] at hv
 obtain ⟨rfl,-⟩:=hv
 exact ⟨rfl,hfr.below⟩
end
section
open Go.ChangeShapes Go.WideShapes Go.ChangeAt Go.RowKit
attribute [local irreducible] wpList Calls Code.wp
def closedB (P:Program) (S:List TypeId):Bool:=S.all fun t=>match P.underlying t with
 |some .bool=>true
 |some .string=>true
 |some (.int q)=>match q with | .i64=>true | _=>false
 |some (.slice e)=>S.contains e&&Nat.blt 0 (P.cellsOf e)
 |some (.struct fs)=>fs.toList.all fun f=>S.contains f.type
 |_=>false
theorem zFD : ∀ {l:List D},(∀ i,i<l.length->wideD (gD l i))->wideL l
 |[],_=>trivial
 |d::r,h=>⟨h 0 (by simp),zFD fun i hi=>by
  have:=h (i+1) (by simpa using hi)
  simpa [gD] using this⟩
theorem zI5 {P:Program} {w:World} {I:Nat->Prop} {S:List TypeId} (hS:closedB P S=true) : ∀ {k:Nat} {t:TypeId} {cs:List Value} {d:D},S.contains t=true->Rep P w I k t cs d->Fits P k t d->wideD d
 |0,_,_,_,_,h,_=>h.elim
 |k+1,t,cs,d,ht,hr,hf=>by
  have hc:=List.all_eq_true.1 hS t (List.contains_iff_mem.1 ht)
  unfold Rep at hr
  unfold Fits at hf
  split at hr
  . rename_i hu
    rw [hu] at hf
    obtain ⟨b,rfl⟩:=hf
    trivial
  . rename_i q hu
    rw [hu] at hf hc
    obtain ⟨n,rfl⟩:=hf
    obtain ⟨-,hw⟩:=hr
    cases q<;>simp at hc
    have hw:(Lit.int IntKind.i64 n).wf=true:=hw
    show i64D n
    rw [zDa] at hw
    simp [IntKind.min,IntKind.max,IntKind.signed,IntKind.bits] at hw
    unfold i64D
    omega
  . rename_i hu
    rw [hu] at hf
    obtain ⟨s,rfl⟩:=hf
    trivial
  . rename_i e hu
    rw [hu] at hf hc
    obtain ⟨l,rfl,hfl⟩:=hf
    simp only [Bool.and_eq_true] at hc
    obtain ⟨A,c,-,-,-,-,hi⟩:=hr
    show wideL l
    refine zFD fun i hl => ?_
    obtain ⟨b,off,-,-,hel⟩:=hi (by show 0<l.length;omega) (Nat.le_of_ble_eq_true hc.2)
    obtain ⟨ys,-,-,hy⟩:=hel i hl
    exact zI5 hS hc.1 hy (hfl i hl)
  . rename_i fs hu
    rw [hu] at hf hc
    obtain ⟨l,rfl,hl,hfl⟩:=hf
    show wideL l
    refine zFD fun i hi => ?_
    have hfi:fs[i]? = some (fs[i]'(by omega)):=Array.getElem?_eq_getElem (by omega)
    have hmem:=List.all_eq_true.1 hc (fs[i]'(by omega)) (by simp)
    exact zI5 hS hmem (hr.2 i _ hfi) (hfl i _ hfi)
  . rename_i h1 h2 h3 h4 h5
    exfalso
    split at hc
    . exact h1 ‹_›
    . exact h3 ‹_›
    . exact h2 _ ‹_›
    . exact h4 _ ‹_›
    . exact h5 _ ‹_›
    . cases hc
theorem arg_in {H:Type} {enc:TypeId × Value->H} {W:World} {v:Value} {base:Nat} {dw:DataW H} {ps:List MemPlace} {t:TypeId} {fs:Array Field} (ht:Tryz.prog.underlying t=some (.struct fs)) (hv:Value.okWide Tryz.prog W .any base t v)
 (hd:DataW.Trod enc Tryz.prog W 0 (fun _=>true) true t v dw ps) :
 ∃ (k:Nat) (cs:Array Value) (d:D),v = .agg cs/\Rep Tryz.prog W (fun b=>b<W.heap.size) k t cs.toList d/\Fits Tryz.prog k t d/\bulkD d<=Rows.uptoBulk dw:=by
 obtain ⟨cs,rfl,_⟩:=okWide_struct ht hv
 obtain ⟨k,hk⟩:=hd
 obtain ⟨d,h1,h2,h3⟩:=zC2 hk
 exact ⟨k,cs,d,rfl,by simpa [Value.cells] using h1,h2,h3⟩
theorem rep_len {P:Program} {w:World} {I:Nat->Prop} {k:Nat} {t:TypeId} {cs:List Value} {d:D} {fs:Array Field} (ht:P.underlying t=some (.struct fs)) (h:Rep P w I k t cs d):cs.length=P.cellsOf t:=by
 cases k with
 |zero=>exact h.elim
 |succ k=>unfold Rep at h;rw [ht] at h;exact h.1
theorem cells0 {W:World} {k:Nat} {t:TypeId} {cs:Array Value} {d:D} {fs:Array Field} (ht:Tryz.prog.underlying t=some (.struct fs)) (hl:layB Tryz.prog 12 t=true) (hr:Rep Tryz.prog W (fun b=>b<W.heap.size) k t cs.toList d):rel Tryz.prog (sg0 W) W (.agg (cellsV Tryz.prog 12 t d)) (.agg cs):=by
 rw [rel]
 exact ⟨cs,rfl,zET (s:=sg0 W) 12 k t cs.toList d (RepF.of_rep hr fun b o _ h=>h) (rep_len ht hr) hl⟩
end
section
open Go.RowKit
theorem len8 {l:List D} (h:l.length=8):l=[gD l 0,gD l 1,gD l 2,gD l 3,gD l 4,gD l 5,gD l 6,gD l 7]:=by
 match l,h with
 |[_,_,_,_,_,_,_,_],_=>rfl
theorem zIE {j:Nat} {p:D} (hf:Fits Tryz.prog j 73 p) :
 11+(p.f 0).s.size+(p.f 1).s.size+(p.f 2).s.size+bulkL (p.f 3).l+(p.f 5).s.size+bulkL (p.f 7).l<=bulkD p /\ ∃ j2,∀ i,i<(p.f 7).l.length->Fits Tryz.prog j2 73 (gD (p.f 7).l i):=by
 obtain ⟨j,l,rfl,hl,hfs⟩:=zCa Tryz.underlying73 hf
 have hl:l.length=8:=hl
 obtain ⟨s0,e0⟩:=zBo (hfs 0 _ rfl)
 obtain ⟨s1,e1⟩:=zBo (hfs 1 _ rfl)
 obtain ⟨s2,e2⟩:=zBo (hfs 2 _ rfl)
 obtain ⟨j3,l3,e3,-⟩:=zBp Tryz.underlying69 (hfs 3 _ rfl)
 obtain ⟨j4,l4,e4,hl4,-⟩:=zCa Tryz.underlying71 (hfs 4 _ rfl)
 obtain ⟨s5,e5⟩:=zBo (hfs 5 _ rfl)
 obtain ⟨n6,e6⟩:=zGh (hfs 6 _ rfl)
 obtain ⟨j7,l7,e7,h7⟩:=zBp Tryz.underlying31 (hfs 7 _ rfl)
 have hl4:l4.length=2:=hl4
 have hb4:=zAK l4
 have el:l=[.str s0,.str s1,.str s2,.list l3,.obj l4,.str s5,.int n6,.list l7]:=by rw [len8 hl,e0,e1,e2,e3,e4,e5,e6,e7]
 subst el
 refine ⟨?_,j7,h7⟩
 simp only [bulkD,bulkL]
 show 11+s0.size+s1.size+s2.size+bulkL l3+s5.size+bulkL l7<=_
 omega
theorem field_bulk (sub:ByteArray->List D->List D) (p:D):bulkD (zBi sub p)<=51+(p.f 0).s.size+(p.f 2).s.size+bulkL (p.f 3).l+bulkL (sub ((p.f 4).f 0).s (p.f 7).l):=by
 unfold zBi sD31
 have h0:(if (p.f 0).s.toList==(p.f 2).s.toList then (⟨#[]⟩:ByteArray) else (p.f 0).s).size<=(p.f 0).s.size:=by
  split
  . exact Nat.zero_le _
  . exact Nat.le_refl _
 have h1:bulkL (if (p.f 6).n = -1 then [] else [zBP (p.f 6).n])<=43:=by
  split
  . simp [bulkL]
  . exact Nat.le_refl 43
 simp only [bulkD,bulkL]
 have h2:(⟨#[]⟩:ByteArray).size=0:=rfl
 omega
theorem inl_bulk (p:D) (fs:List D):bulkD (inlD p fs)<=26+(p.f 1).s.size+4*(p.f 5).s.size+bulkL fs:=by
 unfold inlD sD31
 have h1:bulkL (if (p.f 5).s.toList==[] then [] else [zCs (p.f 5).s])<=18+4*(p.f 5).s.size:=by
  split
  . simp [bulkL]
  . rename_i hne
    have hz:(p.f 5).s.size≠0:=fun hz=>hne (by
     rw [Lib.toList_data]
     have:(p.f 5).s.data.toList=[]:=List.eq_nil_of_length_eq_zero (by simpa using hz)
     rw [this];rfl)
    have:bulkL [zCs (p.f 5).s]=21+(p.f 5).s.size:=by
     unfold zCs dD31 sArg vD31
     simp only [bulkD,bulkL]
     have a1:(⟨#[100,101,102,101,114]⟩:ByteArray).size=5:=rfl
     have a2:(⟨#[108,97,98,101,108]⟩:ByteArray).size=5:=rfl
     omega
    omega
 simp only [bulkD,bulkL]
 have h2:(⟨#[]⟩:ByteArray).size=0:=rfl
 omega
theorem zIs {l:List D} {i:Nat} (h:i<l.length):bulkL (l.drop i)=bulkD (gD l i)+bulkL (l.drop (i+1)):=by
 rw [List.drop_eq_getElem_cons h,zAQ h];rfl
section
variable {f:D->D} {l:List D} (hF : ∀ m,m<l.length->bulkD (f (gD l m))+26+((gD l m).f 1).s.size+4*((gD l m).f 5).s.size<=7*bulkD (gD l m))
include hF
theorem zKw (p:D) : ∀ (k i:Nat),bulkL (grpI f l p k i)+7*bulkL (l.drop (i+(grpI f l p k i).length))<=7*bulkL (l.drop i)
 |0,i=>by simp [grpI,bulkL]
 |k+1,i=>by
  by_cases h:i<l.length/\zA5 p (gD l i)=true
  . rw [zDl h]
    have ih:=zKw p k (i+1)
    have h1:=hF i h.1
    have h2:=zIs h.1
    rw [List.length_cons,show i+((grpI f l p k (i+1)).length+1)=i+1+(grpI f l p k (i+1)).length by omega]
    simp only [bulkL]
    omega
  . rw [zEM h]
    simp [bulkL]
theorem zFd (on:ByteArray) : ∀ (j i:Nat),bulkL (selsI f on l j i)<=7*bulkL (l.drop i)
 |0,i=>by simp [selsI,bulkL]
 |j+1,i=>by
  by_cases hi:i<l.length
  . have h2:=zIs hi
    have h1:=hF i hi
    cases hp:zB2 on (gD l i) with
    |true =>
     rw [zBQ hi hp]
     have ih:=zFd on j (i+1)
     simp only [bulkL]
     omega
    |false =>
     rw [zCW hi hp]
     obtain ⟨n,hn⟩ : ∃ n,l.length=n+1:=⟨l.length-1,by omega⟩
     have hg:grpI f l (gD l i) l.length i=f (gD l i)::grpI f l (gD l i) n (i+1):=by rw [hn];exact zDl ⟨hi,zFg _⟩
     have hr:=zKw hF (gD l i) n (i+1)
     have hb:=inl_bulk (gD l i) (grpI f l (gD l i) l.length i)
     have ih:=zFd on j (i+(grpI f l (gD l i) l.length i).length)
     rw [hg] at hb ih |-
     rw [List.length_cons,show i+((grpI f l (gD l i) n (i+1)).length+1)=i+1+(grpI f l (gD l i) n (i+1)).length by omega] at ih |-
     simp only [bulkL] at hb |-
     omega
  . rw [zCX hi]
    simp [bulkL]
end
theorem pk_bulk : ∀ (k:Nat) (on:ByteArray) (l:List D),(∃ j,∀ i,i<l.length->Fits Tryz.prog j 73 (gD l i))->bulkL (pkS k on l)<=7*bulkL l
 |0,_,_,_=>by simp [pkS,bulkL]
 |k+1,on,l,⟨j,h⟩=>by
  have:=zFd (f:=zBi (pkS k)) (l:=l) (fun m hm=>by
   obtain ⟨h1,h2⟩:=zIE (h m hm)
   have h3:=field_bulk (pkS k) (gD l m)
   have ih:=pk_bulk k (((gD l m).f 4).f 0).s ((gD l m).f 7).l h2
   omega) on l.length 0
  rwa [List.drop_zero] at this
theorem wI {n:Int} (h:decide (-9223372036854775808<=n/\n<=9223372036854775807)=true):wideD (.int n):=by
 have h2 : -9223372036854775808<=n/\n<=9223372036854775807:=of_decide_eq_true h
 exact h2
theorem wideL_all {l:List D} (h : ∀ i,i<l.length->wideD (gD l i)):wideL l:=zFD h
theorem wide_args {d:D} (h:wideD d):wideL d.l:=wideL_all fun i _=>h.l i
theorem field_wide {sub:ByteArray->List D->List D} {p:D} (h:wideD p) (hs:wideL (sub ((p.f 4).f 0).s (p.f 7).l)):wideD (zBi sub p):=by
 have hn:=(h.f 6).n
 have ha:=wide_args (h.f 3)
 unfold zBi sD31
 refine ⟨wI rfl,trivial,trivial,trivial,ha,?_,hs,trivial⟩
 show wideL _
 split
 . trivial
 . unfold zBP dD31 sArg vD31
   refine ⟨⟨trivial,⟨⟨trivial,⟨wI rfl,wI rfl,trivial,trivial,trivial,trivial⟩,trivial⟩,⟨trivial,⟨wI rfl,hn,trivial,trivial,trivial,trivial⟩,trivial⟩,trivial⟩,trivial⟩,trivial⟩
theorem inl_wide {p:D} {fs:List D} (h:wideL fs):wideD (inlD p fs):=by
 unfold inlD sD31
 refine ⟨wI rfl,trivial,trivial,trivial,trivial,?_,h,trivial⟩
 show wideL _
 split
 . trivial
 . unfold zCs dD31 sArg vD31
   exact ⟨⟨trivial,⟨⟨trivial,⟨wI rfl,wI rfl,trivial,trivial,trivial,trivial⟩,trivial⟩,trivial⟩,trivial⟩,trivial⟩
theorem zKv {f:D->D} {l:List D} (hF : ∀ m,m<l.length->wideD (f (gD l m))) (p:D) : ∀ (k i:Nat),wideL (grpI f l p k i)
 |0,_=>trivial
 |k+1,i=>by
  by_cases h:i<l.length/\zA5 p (gD l i)=true
  . rw [zDl h];exact ⟨hF i h.1,zKv hF p k (i+1)⟩
  . rw [zEM h];trivial
theorem zFc {f:D->D} {l:List D} (hF : ∀ m,m<l.length->wideD (f (gD l m))) (on:ByteArray) : ∀ (j i:Nat),wideL (selsI f on l j i)
 |0,_=>trivial
 |j+1,i=>by
  by_cases hi:i<l.length
  . cases hp:zB2 on (gD l i) with
    |true=>rw [zBQ hi hp];exact ⟨hF i hi,zFc hF on j (i+1)⟩
    |false=>rw [zCW hi hp];exact ⟨inl_wide (zKv hF _ _ _),zFc hF on j _⟩
  . rw [zCX hi];trivial
theorem pk_wide : ∀ (k:Nat) (on:ByteArray) (l:List D),(∀ i,wideD (gD l i))->wideL (pkS k on l)
 |0,_,_,_=>trivial
 |k+1,on,l,h=>zFc (f:=zBi (pkS k)) (fun m _=>field_wide (h m) (pk_wide k _ _ fun i=>((h m).f 7).l i)) on l.length 0
theorem zJi {j:Nat} {f:D} {kind:Int} (hp : ∃ j,∀ i,i<(f.f 6).l.length->Fits Tryz.prog j 73 (gD (f.f 6).l i)) (k:Nat):bulkL (fetchO k f kind)<=7*bulkL (f.f 6).l+200:=by
 have ho : ∀ q,bulkL (opSels k q (f.f 6).l)<=7*bulkL (f.f 6).l+60:=fun q=>by
  unfold opSels
  split
  . have:bulkL [zD8]<=60:=by decide
    omega
  . have:=pk_bulk k (zDV q) _ hp
    omega
 unfold fetchO
 split
 . have:=ho kind
   unfold zA7
   simp only [bulkD,bulkL]
   have h2:(⟨#[]⟩:ByteArray).size=0:=rfl
   omega
 . have h1:=ho 1
   generalize opSels k 1 (f.f 6).l=S at *
   unfold zA7 entS sD31
   have h3:bulkD zBn<=40:=by decide
   have h4:bulkL [sArg ⟨#[114,101,112,114,101,115,101,110,116,97,116,105,111,110,115]⟩ (vD31 7 0 ⟨#[114]⟩)]<=40:=by decide
   have h5:(⟨#[95,101,110,116,105,116,105,101,115]⟩:ByteArray).size=9:=rfl
   have h2:(⟨#[]⟩:ByteArray).size=0:=rfl
   simp only [bulkD,bulkL] at *
   omega
theorem zDp {f:D} {kind:Int} (hk:i64D kind) (h:wideD f) (k:Nat):wideD (.obj [.list (fetchO k f kind),.list []]):=by
 have ho : ∀ q,wideL (opSels k q (f.f 6).l):=fun q=>by
  unfold opSels
  split
  . unfold zD8 sD31 dD31 sArg vD31
    exact ⟨⟨wI rfl,trivial,trivial,trivial,trivial,⟨⟨trivial,⟨⟨trivial,⟨wI rfl,wI rfl,trivial,trivial,trivial,trivial⟩,trivial⟩,trivial⟩,trivial⟩,trivial⟩,trivial,trivial⟩,trivial⟩
  . exact pk_wide k _ _ fun i=>(h.f 6).l i
 refine ⟨?_,trivial,trivial⟩
 show wideL _
 unfold fetchO
 split
 . exact ⟨⟨hk,trivial,trivial,ho kind,trivial⟩,trivial⟩
 . have h1:=ho 1
   generalize opSels k 1 (f.f 6).l=S at *
   unfold zA7 entS sD31 zBn anyRef nullV sArg vD31
   exact ⟨⟨wI rfl,trivial,⟨⟨trivial,⟨trivial,⟨wI rfl,wI rfl,wI rfl,trivial⟩,trivial⟩,trivial,⟨wI rfl,wI rfl,trivial,trivial,trivial,trivial⟩,trivial⟩,trivial⟩,⟨⟨wI rfl,trivial,trivial,trivial,⟨⟨trivial,⟨wI rfl,wI rfl,trivial,trivial,trivial,trivial⟩,trivial⟩,trivial⟩,trivial,h1,trivial⟩,trivial⟩,trivial⟩,trivial⟩
end
section
def ftT:List UInt8:=[102,101,116,99,104,32]
def indG:List UInt8->List UInt8->List UInt8
 |cur,[]=>if cur=[] then [] else [32,32]++cur++[10]
 |cur,c::r=>if c=10 then [32,32]++cur++[10]++indG [] r else indG (cur++[c]) r
def indT (t:List UInt8):List UInt8:=indG [] t
def zE2 (gs:List D) (n:Int):List UInt8:=if 0<=n/\n<(gs.length:Int) then tx (gD gs n.toNat).s else [63]
def zEX (l:List D):List UInt8:=if l.length=0 then [] else [44,32,97,102,116,101,114,32]++Lib.join (l.map fun d=>Lib.itoa d.n) [32]
def hopT (h:D):List UInt8:=tx (h.f 0).s++[46]++tx (h.f 1).s
def pathT (f:D):List UInt8:=
 if (f.f 2).l.length=0 then [] else [44,32,97,116,32]++Lib.join ((f.f 2).l.map hopT) [47]++[44,32,102,111,114,32]++tx (f.f 3).s++[44,32,98,121,32]++Lib.join ((f.f 4).l.map fun d=>tx d.s) [32]
def restT (gs:List D) (i:Int) (f:D):List UInt8:=
 Lib.itoa i++[58,32]++zE2 gs (f.f 0).n++[44,32,100,101,112,116,104,32]++Lib.itoa (f.f 1).n++zEX (f.f 7).l++pathT f
def zIO (gs:List D) (i:Int) (f:D):List UInt8:=ftT++restT gs i f++[10]
def zGE (gs:List D) (doc:D->List UInt8):List D->Nat->List UInt8
 |[],_=>[]
 |f::r,i=>zIO gs i f++indT (doc f)++zGE gs doc r (i+1)
end
end Go.Proofs.YthjiclhfhjdjpaaGreatDoor
