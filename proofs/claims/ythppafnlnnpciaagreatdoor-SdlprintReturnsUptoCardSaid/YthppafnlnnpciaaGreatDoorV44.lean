import Derived.Test.YthppafnlnnpciaaGreatDoorV37
import Derived.Test.YthppafnlnnpciaaGreatDoorV43
set_option maxHeartbeats 8000000
set_option maxRecDepth 100000
set_option linter.unusedVariables false
set_option linter.unusedSimpArgs false
namespace Go.Proofs.YthppafnlnnpciaaGreatDoor
section
open Go.RowKit
set_option linter.unusedSectionVars false
def nullB (d:D):Bool:=(d.f 0).n==0&&(d.f 1).n==0&&((d.f 2).s.data.toList==[])&&decide ((d.f 3).l.length=0)&&decide ((d.f 4).l.length=0)
theorem null_valW (d:D):nullB d=(valY litW d&&(d.f 0).n==0):=by
 obtain ⟨b,hb⟩ : ∃ b,bulkD d=b+1:=⟨bulkD d-1,by have:=zAl d;omega⟩
 have hs:zI2 (b+1) d=IntKind.i64.wrap ((1+sumN (fun i=>sizeR b (gD (d.f 3).l i)) (d.f 3).l.length:Nat):Int):=rfl
 have hd:zDN (b+1) d=IntKind.i64.wrap (maxW (fun i=>zDN b (gD (d.f 3).l i)) (d.f 3).l.length+1):=rfl
 have he:everyL (b+1) d=(zJG d && !((d.f 3).l.any fun x => !everyL b x)):=rfl
 have hr:bareR (b+1) d=(!((d.f 0).n==7) && !((d.f 3).l.any fun x => !bareR b x)):=rfl
 rw [Bool.eq_iff_iff]
 constructor
 . intro h
   unfold nullB at h
   simp only [Bool.and_eq_true,beq_iff_eq,decide_eq_true_eq] at h
   obtain ⟨⟨⟨⟨h0,h1⟩,h2⟩,h3⟩,h4⟩:=h
   have z3:=List.eq_nil_of_length_eq_zero h3
   have z4:=List.eq_nil_of_length_eq_zero h4
   unfold valY litW
   rw [hb,hs,hd,he,hr,h3,z3]
   have hn:zJG d=true:=by
    unfold zJG
    rw [h0,h1,h2,h3,h4,show strsR d=[] by unfold strsR;rw [z4];rfl,z4]
    rfl
   rw [hn,h0];rfl
 . intro h
   rw [Bool.and_eq_true,beq_iff_eq] at h
   obtain ⟨h,h0⟩:=h
   unfold valY litW at h
   rw [hb,he] at h
   simp only [Bool.and_eq_true] at h
   have hx:=xnode h.1.2.1
   unfold nullB
   rw [h0]
   have q1:(d.f 1).n=0:=by rcases hx.int0 with h | h | h<;>omega
   have q2:tx (d.f 2).s=[]:=by rcases hx.txt0 with h | h | h | h<;>first | exact h | omega
   have q3:(d.f 3).l.length=0:=by rcases hx.items0 with h | h | h<;>omega
   have q4:(d.f 4).l.length=0:=by rcases hx.keys0 with h | h<;>omega
   have q2:(d.f 2).s.data.toList=[]:=q2
   rw [q1,q2,q3,q4];rfl
attribute [local irreducible] wpList Calls Code.wp AW AWo OpOk seqK zz z8 loopK endK AC zl Yld Sub
attribute [local irreducible] ACB ACX ACE absLexG YldG absLexH
theorem nullF_ac (d:D):AC EN Tryz.prog 138 [.agg (cellsV Tryz.prog 12 53 d)] (.c (.bool (nullB d))):=by
 have hT:((d.f 2).s.toList==({ data:=#[] }:ByteArray).toList)=((d.f 2).s.data.toList==[]):=zE8 _ []
 have z3:(((d.f 3).l.length:Int)==0)=decide ((d.f 3).l.length=0):=by rw [Bool.eq_iff_iff];simp only [beq_iff_eq,decide_eq_true_eq];omega
 have z4:(((d.f 4).l.length:Int)==0)=decide ((d.f 4).l.length=0):=by rw [Bool.eq_iff_iff];simp only [beq_iff_eq,decide_eq_true_eq];omega
 unfold nullB
 refine zN 28 Tryz.func138 rfl rfl rfl rfl ?_
 intro s w he
 repeat' (first
|refine zA ?_
|refine zB ?_
|refine zH ?_
|apply aw_1
 conv=>whnf
 refine ⟨?_,trivial⟩
|apply zq rfl rfl
 . conv=>lhs;whnf
 . conv=>lhs;whnf
 . first | exact bT1 ‹_› | exact bT2 ‹_›
|apply za rfl rfl
 . conv=>lhs;whnf
 . conv=>lhs;whnf
 . first | exact bF1 ‹_› | exact bF2 ‹_›
|apply s_1
 conv=>whnf;arg 1;arg 4;arg 3;whnf
 refine ⟨?_,?_⟩
|apply zAL rfl rfl rfl rfl
 . conv=>lhs;whnf;arg 1;whnf
 . rfl
|apply zL rfl
 . conv=>lhs;whnf
 . conv=>lhs;whnf
 . first | rfl | assumption
 . conv=>lhs;whnf;arg 2;whnf
|apply zr rfl
 . conv=>lhs;whnf
 . conv=>lhs;whnf
 . first | rfl | assumption
|apply zF rfl
 . conv=>lhs;whnf
 . conv=>lhs;whnf
 . conv=>lhs;whnf;arg 2;whnf
|refine zE ?_
|refine ⟨_,by conv=>lhs;whnf;arg 2;whnf,?_⟩;conv=>rhs;whnf
|exact trivial
|intro hg)
 all_goals
  refine congrArg (fun b=>V.c (.bool b)) ?_
  clear he
  simp only [hT,z3,z4] at *
  clear hT z3 z4
  generalize ((d.f 2).s.data.toList==[])=t at *
  generalize decide ((d.f 3).l.length=0)=b0 at *
  generalize decide ((d.f 4).l.length=0)=a0 at *
  simp_all
noncomputable def HClF (d:D) (i:Nat):Vst 21:=stS 21 [(1,.bx 1 0),(3,.c (.int .i64 (i:Int)))] [(1,.box 53 (cellsV Tryz.prog 12 53 d))]
theorem zGY : ∀ (k:Nat) (d:D),Dp k d->AC EN Tryz.prog 136 [.agg (cellsV Tryz.prog 12 53 d)] (.c (.bool (bareR k d)))
 |0,_,h=>h.elim
 |k+1,d,h=>by
  refine zEe 2 (by kernel_rfl) fun hL => ?_
  have hl:(d.f 3).l.length<=9223372036854775807:=(zFO hL).1
  clear hL
  have ih:=fun i (hi:i<(d.f 3).l.length)=>zGY k (gD (d.f 3).l i) (h i hi)
  have hR:bareR (k+1) d=(zAU (bareR k) (d.f 3).l (d.f 3).l.length 0 && !((d.f 0).n==7)):=by rw [zFq,Bool.and_comm];rfl
  generalize bareR (k+1) d=R at hR |-
  refine zN 21 Tryz.func136 rfl rfl rfl rfl ?_
  intro s w he
  repeat' (first
|refine zA ?_
|refine zB ?_
|refine zH ?_
|apply aw_1
 conv=>whnf
 refine ⟨?_,trivial⟩
|apply s_1
 conv=>whnf;arg 1;arg 4;arg 3;whnf
 refine ⟨?_,?_⟩
|apply zAL rfl rfl rfl rfl
 . conv=>lhs;whnf;arg 1;whnf
 . rfl
|exact trivial)
  refine zi (fun j st => ∃ i,i+j=(d.f 3).l.length/\R=(zAU (bareR k) (d.f 3).l j i && !((d.f 0).n==7))/\Sub (cx EN Tryz.prog s w he) st (HClF d i)) (d.f 3).l.length ⟨0,by omega,hR,Sub.live ⟨rfl,rfl,trivial⟩ ⟨rfl,trivial⟩⟩ ?_
  clear hR
  rintro j st ⟨i,hij,hR,hs2⟩
  refine zg hs2 ?_
  clear hs2
  by_cases hi:i<(d.f 3).l.length
  . obtain ⟨j,rfl⟩ : ∃ q,j=q+1:=⟨j-1,by omega⟩
    have f1:decide ((i:Int)<((d.f 3).l.length:Nat))=true:=decide_eq_true (by omega)
    have hR':R=(bareR k (gD (d.f 3).l i)&&zAU (bareR k) (d.f 3).l j (i+1) && !((d.f 0).n==7)):=hR
    have ih2:=ih i hi
    repeat' (first
|apply zG
 . conv=>lhs;whnf
 . assumption
|refine zA ?_
|refine zB ?_
|refine zH ?_
|refine zR ?_
|apply aw_1
 conv=>whnf
 refine ⟨?_,trivial⟩
|apply s_1
 conv=>whnf;arg 1;arg 4;arg 3;whnf
 refine ⟨?_,?_⟩
|apply ze rfl
 . conv=>lhs;whnf
 . conv=>lhs;whnf
 . first | exact ih2
|refine zZ (by conv=>lhs;whnf) ?_ ?_<;>intro hb
|refine zO ?_
|refine zQ ?_
|refine zy ?_
|refine zE ?_
|refine ⟨_,by conv=>lhs;whnf;arg 2;whnf,?_⟩;conv=>rhs;whnf
|exact trivial)
    all_goals first
     |exact zU (by omega)
     |exact zAI hi
     |(have e:bareR k (gD (d.f 3).l i)=false:=by simpa using (by assumption:(!bareR k (gD (d.f 3).l i))=true)
       rw [hR',e];rfl)
     |(have e:bareR k (gD (d.f 3).l i)=true:=by simpa using (by assumption:(!bareR k (gD (d.f 3).l i))=false)
       exact zI (j':=j) (by omega) ⟨i+1,by omega,by rw [hR',e,Bool.true_and],Sub.live ⟨rfl,rfl,trivial⟩ ⟨rfl,trivial⟩⟩)
     |skip
  . obtain rfl:j=0:=by omega
    have f1:decide ((i:Int)<((d.f 3).l.length:Nat))=false:=decide_eq_false (by omega)
    repeat' (first
|apply zC
 . conv=>lhs;whnf
 . assumption
|refine zA ?_
|refine zB ?_
|refine zH ?_
|apply aw_1
 conv=>whnf
 refine ⟨?_,trivial⟩
|apply s_1
 conv=>whnf;arg 1;arg 4;arg 3;whnf
 refine ⟨?_,?_⟩
|refine zM ?_
|refine zK rfl ?_
|refine zJ ?_
|refine zE ?_
|refine ⟨_,by conv=>lhs;whnf;arg 2;whnf,?_⟩;conv=>rhs;whnf
|exact trivial)
    rw [hR,zAU,Bool.true_and];rfl
theorem zFi (d:D):AC EN Tryz.prog 136 [.agg (cellsV Tryz.prog 12 53 d)] (.c (.bool (bareR (bulkD d) d))):=zGY _ d (zCR (bulkD d) d (Nat.le_refl _))
noncomputable def HTfU (d:D) (i:Nat):Vst 54:=stS 54 [(1,.bx 1 0),(3,.c (.int .i64 (i:Int)))] [(1,.box 48 (cellsV Tryz.prog 12 48 d))]
theorem zJ2 (d:D):AC EN Tryz.prog 137 [.agg (cellsV Tryz.prog 12 48 d)] (.c (.bool (refR d))):=by
 refine zEe 2 (by kernel_rfl) fun hL2 => ?_
 have hl:(d.f 1).l.length<=9223372036854775807:=len_ref hL2
 clear hL2
 have hn:=zAu (d.f 0).s
 have hR:refR d=(nameB (d.f 0).s&&decide ((d.f 1).l.length<=24)&&wrapsI (d.f 1).l (d.f 1).l.length 0):=by rw [zJk];rfl
 generalize refR d=R at hR |-
 have e:decide (((d.f 1).l.length:Int)>24) = !decide ((d.f 1).l.length<=24):=by
  rw [Bool.eq_iff_iff]
  simp only [decide_eq_true_eq,Bool.not_eq_true',decide_eq_false_iff_not]
  omega
 refine zN 54 Tryz.func137 rfl rfl rfl rfl ?_
 intro s w he
 repeat' (first
|refine zA ?_
|refine zB ?_
|refine zH ?_
|apply aw_1
 conv=>whnf
 refine ⟨?_,trivial⟩
|apply zq rfl rfl
 . conv=>lhs;whnf
 . conv=>lhs;whnf
 . first | exact bT1 ‹_› | exact bT2 ‹_›
|apply za rfl rfl
 . conv=>lhs;whnf
 . conv=>lhs;whnf
 . first | exact bF1 ‹_› | exact bF2 ‹_›
|apply s_1
 conv=>whnf;arg 1;arg 4;arg 3;whnf
 refine ⟨?_,?_⟩
|apply ze rfl
 . conv=>lhs;whnf
 . conv=>lhs;whnf
 . first | exact hn
|apply zAL rfl rfl rfl rfl
 . conv=>lhs;whnf;arg 1;whnf
 . rfl
|apply zL rfl
 . conv=>lhs;whnf
 . conv=>lhs;whnf
 . first | rfl | assumption
 . conv=>lhs;whnf;arg 2;whnf
|apply zr rfl
 . conv=>lhs;whnf
 . conv=>lhs;whnf
 . first | rfl | assumption
|apply zF rfl
 . conv=>lhs;whnf
 . conv=>lhs;whnf
 . conv=>lhs;whnf;arg 2;whnf
|refine zZ (by conv=>lhs;whnf) ?_ ?_<;>intro hb
|refine zO ?_
|refine zE ?_
|refine ⟨_,by conv=>lhs;whnf;arg 2;whnf,?_⟩;conv=>rhs;whnf
|exact trivial
|intro hg)
 . simp_all
   intros
   omega
 . have hR2:R=wrapsI (d.f 1).l (d.f 1).l.length 0:=by simp_all
   clear hR hn
   refine zi (fun j st => ∃ i,i+j=(d.f 1).l.length/\R=wrapsI (d.f 1).l j i/\Sub (cx EN Tryz.prog s w he) st (HTfU d i)) (d.f 1).l.length ⟨0,by omega,hR2,Sub.live ⟨rfl,rfl,trivial⟩ ⟨rfl,trivial⟩⟩ ?_
   clear hR2 hg hb e
   rintro j st ⟨i,hij,hR,hs2⟩
   refine zg hs2 ?_
   clear hs2
   by_cases hi:i<(d.f 1).l.length
   . obtain ⟨j,rfl⟩ : ∃ q,j=q+1:=⟨j-1,by omega⟩
     have f1:decide ((i:Int)<((d.f 1).l.length:Nat))=true:=decide_eq_true (by omega)
     have e1:decide ((i:Int)>0)=decide (0<i):=decide_eq_decide.2 (by omega)
     have eT:((i:Int)-1).toNat=i-1:=by omega
     have hR':R=(((gD (d.f (0+1)).l (i:Int).toNat).n==1||(gD (d.f (0+1)).l (i:Int).toNat).n==2) && !((gD (d.f (0+1)).l (i:Int).toNat).n==1&&decide ((i:Int)>0)&&((gD (d.f (0+1)).l ((i:Int)-1).toNat).n==(gD (d.f (0+1)).l (i:Int).toNat).n))&&wrapsI (d.f 1).l j (i+1)):=by
      rw [hR,e1,eT,Int.toNat_natCast];rfl
     clear hR e1
     repeat' (first
|apply zG
 . conv=>lhs;whnf
 . assumption
|refine zA ?_
|refine zB ?_
|refine zH ?_
|refine zR ?_
|apply aw_1
 conv=>whnf
 refine ⟨?_,trivial⟩
|apply zq rfl rfl
 . conv=>lhs;whnf
 . conv=>lhs;whnf
 . first | exact bT1 ‹_› | exact bT2 ‹_›
|apply za rfl rfl
 . conv=>lhs;whnf
 . conv=>lhs;whnf
 . first | exact bF1 ‹_› | exact bF2 ‹_›
|apply s_1
 conv=>whnf;arg 1;arg 4;arg 3;whnf
 refine ⟨?_,?_⟩
|apply zL rfl
 . conv=>lhs;whnf
 . conv=>lhs;whnf
 . first | rfl | assumption
 . conv=>lhs;whnf;arg 2;whnf
|apply zr rfl
 . conv=>lhs;whnf
 . conv=>lhs;whnf
 . first | rfl | assumption
|apply zF rfl
 . conv=>lhs;whnf
 . conv=>lhs;whnf
 . conv=>lhs;whnf;arg 2;whnf
|refine zZ (by conv=>lhs;whnf) ?_ ?_<;>intro hb
|refine zO ?_
|refine zQ ?_
|refine zy ?_
|refine zE ?_
|refine ⟨_,by conv=>lhs;whnf;arg 2;whnf,?_⟩;conv=>rhs;whnf
|exact trivial
|intro hg)
     all_goals first
      |exact zU (by omega)
      |exact zAI hi
      |(have h0:(i:Int)>0:=by simp_all
        exact (show 0<=(i:Int)-1/\(i:Int)-1<(((d.f 1).l.length:Nat):Int) from ⟨by omega,by omega⟩))
      |(have h0:(i:Int)>0:=by simp_all
        exact zU (by omega))
      |(have hN:R=wrapsI (d.f 1).l j (i+1):=by simp_all
        exact zI (j':=j) (by omega) ⟨i+1,by omega,hN,Sub.live ⟨rfl,rfl,trivial⟩ ⟨rfl,trivial⟩⟩)
      |skip
     all_goals
      refine congrArg (fun b=>V.c (.bool b)) ?_
      clear eT f1 hi hij he
      simp_all
   . obtain rfl:j=0:=by omega
     have f1:decide ((i:Int)<((d.f 1).l.length:Nat))=false:=decide_eq_false (by omega)
     repeat' (first
|apply zC
 . conv=>lhs;whnf
 . assumption
|refine zA ?_
|refine zB ?_
|refine zH ?_
|apply aw_1
 conv=>whnf
 refine ⟨?_,trivial⟩
|apply s_1
 conv=>whnf;arg 1;arg 4;arg 3;whnf
 refine ⟨?_,?_⟩
|refine zM ?_
|refine zK rfl ?_
|refine zJ ?_
|refine zE ?_
|refine ⟨_,by conv=>lhs;whnf;arg 2;whnf,?_⟩;conv=>rhs;whnf
|exact trivial)
     rw [hR];rfl
 . simp_all
noncomputable def HdFU (l:List D) (i:Nat):Vst 65:=stS 65 [(0,.sl 108 l),(3,.c (.int .i64 (i:Int)))] []
noncomputable def HdGU (l:List D) (i k:Nat):Vst 65:=stS 65 [(0,.sl 108 l),(3,.c (.int .i64 (i:Int))),(4,.c (.int .i64 (k:Int)))] []
theorem zD3 (l:List D):AC EN Tryz.prog 73 [.sl 108 l] (.c (.bool (dirsY litW l))):=by
 refine zHZ 2 fun hL2 => ?_
 have hl:l.length<=9223372036854775807:=hL2.1
 have hla : ∀ i,i<l.length->((gD l i).f 1).l.length<=9223372036854775807:=fun i hi=>len_dir (hL2.2 (by decide +kernel) i hi)
 clear hL2
 by_cases h16:16<l.length
 . have f0:decide ((l.length:Int)>16)=true:=decide_eq_true (by omega)
   rw [show dirsY litW l=false by unfold dirsY;rw [decide_eq_false (by omega)];rfl]
   refine zN 65 Tryz.func73 rfl rfl rfl rfl ?_
   intro s w he
   repeat' (first
|apply zG
 . conv=>lhs;whnf
 . assumption
|refine zA ?_
|refine zB ?_
|refine zH ?_
|apply aw_1
 conv=>whnf
 refine ⟨?_,trivial⟩
|apply s_1
 conv=>whnf;arg 1;arg 4;arg 3;whnf
 refine ⟨?_,?_⟩
|refine zO ?_
|refine zE ?_
|refine ⟨_,by conv=>lhs;whnf;arg 2;whnf,?_⟩;conv=>rhs;whnf
|exact trivial)
 have f0:decide ((l.length:Int)>16)=false:=decide_eq_false (by omega)
 have hR:dirsY litW l=zAU (dirY litW) l l.length 0:=by unfold dirsY;rw [decide_eq_true (by omega),zBA,Bool.true_and]
 generalize dirsY litW l=R at hR |-
 refine zN 65 Tryz.func73 rfl rfl rfl rfl ?_
 intro s w he
 repeat' (first
|apply zC
 . conv=>lhs;whnf
 . assumption
|refine zA ?_
|refine zB ?_
|refine zH ?_
|apply aw_1
 conv=>whnf
 refine ⟨?_,trivial⟩
|apply s_1
 conv=>whnf;arg 1;arg 4;arg 3;whnf
 refine ⟨?_,?_⟩
|exact trivial)
 refine zi (fun j st => ∃ i,i+j=l.length/\R=zAU (dirY litW) l j i/\Sub (cx EN Tryz.prog s w he) st (HdFU l i)) l.length ⟨0,by omega,hR,Sub.live ⟨rfl,rfl,trivial⟩ trivial⟩ ?_
 clear hR
 rintro j st ⟨i,hij,hR,hs2⟩
 refine zg hs2 ?_
 clear hs2
 by_cases hi:i<l.length
 . obtain ⟨j,rfl⟩ : ∃ q,j=q+1:=⟨j-1,by omega⟩
   have f1:decide ((i:Int)<(l.length:Nat))=true:=decide_eq_true (by omega)
   have hR':R=(dirY litW (gD l i)&&zAU (dirY litW) l j (i+1)):=hR
   clear hR
   have ha:=hla i hi
   have h1:=zAu ((gD l i).f 0).s
   cases hnb:nameB ((gD l i).f 0).s with
   |false =>
    have e:dirY litW (gD l i)=false:=by unfold dirY;rw [hnb];rfl
    have hRf:R=false:=by rw [hR',e];rfl
    rw [hRf]
    rw [hnb] at h1
    have K:((!false)==false)=true->False:=by decide
    repeat' (first
|apply zG
 . conv=>lhs;whnf
 . assumption
|refine zA ?_
|refine zB ?_
|refine zH ?_
|apply aw_1
 conv=>whnf
 refine ⟨?_,trivial⟩
|apply s_1
 conv=>whnf;arg 1;arg 4;arg 3;whnf
 refine ⟨?_,?_⟩
|apply ze rfl
 . conv=>lhs;whnf
 . conv=>lhs;whnf
 . first | exact h1
|refine zO ?_
|refine zQ ?_
|refine zy ?_
|refine zE ?_
|refine ⟨_,by conv=>lhs;whnf;arg 2;whnf,?_⟩;conv=>rhs;whnf
|exact trivial)
    all_goals first
     |exact zU (by omega)
     |exact zAI hi
     |rfl
     |skip
   |true =>
    rw [hnb] at h1
    have K:((!true)==false)=false->False:=by decide
    by_cases h16:16<((gD l i).f 1).l.length
    . have f4:decide ((((gD l i).f 1).l.length:Int)>16)=true:=decide_eq_true (by omega)
      have e:dirY litW (gD l i)=false:=by unfold dirY argsY;rw [decide_eq_false (by omega)];simp
      have hRf:R=false:=by rw [hR',e];rfl
      rw [hRf]
      repeat' (first
|apply zG
 . conv=>lhs;whnf
 . assumption
|refine zA ?_
|refine zB ?_
|refine zH ?_
|apply aw_1
 conv=>whnf
 refine ⟨?_,trivial⟩
|apply s_1
 conv=>whnf;arg 1;arg 4;arg 3;whnf
 refine ⟨?_,?_⟩
|apply ze rfl
 . conv=>lhs;whnf
 . conv=>lhs;whnf
 . first | exact h1
|refine zO ?_
|refine zQ ?_
|refine zy ?_
|refine zE ?_
|refine ⟨_,by conv=>lhs;whnf;arg 2;whnf,?_⟩;conv=>rhs;whnf
|exact trivial)
      all_goals first
       |exact zU (by omega)
       |exact zAI hi
       |rfl
       |skip
    . have f4:decide ((((gD l i).f 1).l.length:Int)>16)=false:=decide_eq_false (by omega)
      have e:dirY litW (gD l i)=zAU (argY litW) ((gD l i).f 1).l ((gD l i).f 1).l.length 0:=by
       unfold dirY argsY;rw [hnb,decide_eq_true (by omega),zBA,Bool.true_and,Bool.true_and]
      rw [e] at hR'
      clear e
      repeat' (first
|apply zG
 . conv=>lhs;whnf
 . assumption
|apply zC
 . conv=>lhs;whnf
 . assumption
|refine zA ?_
|refine zB ?_
|refine zH ?_
|apply aw_1
 conv=>whnf
 refine ⟨?_,trivial⟩
|apply s_1
 conv=>whnf;arg 1;arg 4;arg 3;whnf
 refine ⟨?_,?_⟩
|apply ze rfl
 . conv=>lhs;whnf
 . conv=>lhs;whnf
 . first | exact h1
|exact trivial)
      all_goals first
       |exact zU (by omega)
       |exact zAI hi
       |skip
      clear h1 K f4
      refine zi (fun jj st => ∃ k,k+jj=((gD l i).f 1).l.length/\R=(zAU (argY litW) ((gD l i).f 1).l jj k&&zAU (dirY litW) l j (i+1))/\Sub (cx EN Tryz.prog s w he) st (HdGU l i k)) ((gD l i).f 1).l.length ⟨0,by omega,hR',Sub.live ⟨rfl,rfl,rfl,trivial⟩ trivial⟩ ?_
      clear hR'
      rintro jj st2 ⟨k,hkj,hR,hs3⟩
      refine zg hs3 ?_
      clear hs3
      by_cases hk:k<((gD l i).f 1).l.length
      . obtain ⟨jj,rfl⟩ : ∃ q,jj=q+1:=⟨jj-1,by omega⟩
        have f2:decide ((k:Int)<(((gD l i).f 1).l.length:Nat))=true:=decide_eq_true (by omega)
        have hR':R=(argY litW (gD ((gD l i).f 1).l k)&&zAU (argY litW) ((gD l i).f 1).l jj (k+1)&&zAU (dirY litW) l j (i+1)):=hR
        clear hR
        have e:argY litW (gD ((gD l i).f 1).l k)=(nameB ((gD ((gD l i).f 1).l k).f 0).s&&(litW ((gD ((gD l i).f 1).l k).f 1)&&bareR (bulkD ((gD ((gD l i).f 1).l k).f 1)) ((gD ((gD l i).f 1).l k).f 1))):=rfl
        have q1:=zAu ((gD ((gD l i).f 1).l k).f 0).s
        have q2:=zKH ((gD ((gD l i).f 1).l k).f 1)
        have q3:=zFi ((gD ((gD l i).f 1).l k).f 1)
        generalize nameB ((gD ((gD l i).f 1).l k).f 0).s=a at q1 e
        generalize litW ((gD ((gD l i).f 1).l k).f 1)=b at q2 e
        generalize bareR (bulkD ((gD ((gD l i).f 1).l k).f 1)) ((gD ((gD l i).f 1).l k).f 1)=c at q3 e
        repeat' (first
|apply zG
 . conv=>lhs;whnf
 . assumption
|refine zA ?_
|refine zB ?_
|refine zH ?_
|refine zR ?_
|apply aw_1
 conv=>whnf
 refine ⟨?_,trivial⟩
|apply zq rfl rfl
 . conv=>lhs;whnf
 . conv=>lhs;whnf
 . first | exact bT1 ‹_› | exact bT2 ‹_›
|apply za rfl rfl
 . conv=>lhs;whnf
 . conv=>lhs;whnf
 . first | exact bF1 ‹_› | exact bF2 ‹_›
|apply s_1
 conv=>whnf;arg 1;arg 4;arg 3;whnf
 refine ⟨?_,?_⟩
|apply ze rfl
 . conv=>lhs;whnf
 . conv=>lhs;whnf
 . first | exact q1 | exact q2 | exact q3
|apply zS rfl rfl rfl
 . conv=>lhs;whnf
 . conv=>lhs;whnf;arg 1;whnf
 . conv=>lhs;whnf;arg 1;whnf
 . exact ⟨by kernel_rfl,by kernel_rfl⟩
 . rfl
|apply zL rfl
 . conv=>lhs;whnf
 . conv=>lhs;whnf
 . first | rfl | assumption
 . conv=>lhs;whnf;arg 2;whnf
|apply zY rfl
 . conv=>lhs;whnf
 . conv=>lhs;whnf
 . first | rfl | assumption
 . conv=>lhs;whnf
 . first | exact q1 | exact q2 | exact q3
|apply zr rfl
 . conv=>lhs;whnf
 . conv=>lhs;whnf
 . first | rfl | assumption
|apply zF rfl
 . conv=>lhs;whnf
 . conv=>lhs;whnf
 . conv=>lhs;whnf;arg 2;whnf
|refine zZ (by conv=>lhs;whnf) ?_ ?_<;>intro hb
|refine zO ?_
|refine zQ ?_
|refine zy ?_
|refine zE ?_
|refine ⟨_,by conv=>lhs;whnf;arg 2;whnf,?_⟩;conv=>rhs;whnf
|exact trivial
|intro hg)
        all_goals first
         |exact zU (by omega)
         |exact zAI hi
         |exact zAI hk
         |(have e2:argY litW (gD ((gD l i).f 1).l k)=false:=by
            rw [e];clear q1 q2 q3 e hR' he;cases a<;>cases b<;>cases c<;>simp_all
           rw [hR',e2];rfl)
         |(have e2:argY litW (gD ((gD l i).f 1).l k)=true:=by
            rw [e];clear q1 q2 q3 e hR' he;cases a<;>cases b<;>cases c<;>simp_all
           exact zI (j':=jj) (by omega) ⟨k+1,by omega,by rw [hR',e2,Bool.true_and],Sub.live ⟨rfl,rfl,rfl,trivial⟩ trivial⟩)
         |skip
      . obtain rfl:jj=0:=by omega
        have f2:decide ((k:Int)<(((gD l i).f 1).l.length:Nat))=false:=decide_eq_false (by omega)
        have hR':R=zAU (dirY litW) l j (i+1):=by rw [hR,zAU,Bool.true_and]
        repeat' (first
|apply zC
 . conv=>lhs;whnf
 . assumption
|refine zA ?_
|refine zB ?_
|refine zH ?_
|refine zR ?_
|apply aw_1
 conv=>whnf
 refine ⟨?_,trivial⟩
|apply s_1
 conv=>whnf;arg 1;arg 4;arg 3;whnf
 refine ⟨?_,?_⟩
|refine zM ?_
|refine zK rfl ?_
|refine zJ ?_
|exact trivial)
        all_goals first
         |exact zU (by omega)
         |exact zAI hi
         |exact zI (j':=j) (by omega) ⟨i+1,by omega,hR',Sub.live ⟨rfl,rfl,trivial⟩ trivial⟩
         |skip
 . obtain rfl:j=0:=by omega
   have f1:decide ((i:Int)<(l.length:Nat))=false:=decide_eq_false (by omega)
   repeat' (first
|apply zC
 . conv=>lhs;whnf
 . assumption
|refine zA ?_
|refine zB ?_
|refine zH ?_
|apply aw_1
 conv=>whnf
 refine ⟨?_,trivial⟩
|apply s_1
 conv=>whnf;arg 1;arg 4;arg 3;whnf
 refine ⟨?_,?_⟩
|refine zM ?_
|refine zK rfl ?_
|refine zJ ?_
|refine zE ?_
|refine ⟨_,by conv=>lhs;whnf;arg 2;whnf,?_⟩;conv=>rhs;whnf
|exact trivial)
   rw [hR];rfl
end
section
open Go.RowKit
set_option linter.unusedSectionVars false
theorem inY_eq (x:D):inY litW x=(nameB (x.f 0).s&&refR (x.f 1)&&dirsY litW (x.f 4).l&&(if (x.f 2).b=true then litW (x.f 3)&&bareR (bulkD (x.f 3)) (x.f 3) else nullB (x.f 3))):=by
 unfold inY
 rw [null_valW]
 cases (x.f 2).b<;>simp [valY,Bool.and_assoc]
attribute [local irreducible] wpList Calls Code.wp AW AWo OpOk seqK zz z8 loopK endK AC zl Yld Sub
attribute [local irreducible] ACB ACX ACE absLexG YldG absLexH
noncomputable def HinsFU (l:List D) (i:Nat):Vst 59:=stS 59 [(0,.sl 55 l),(3,.c (.int .i64 (i:Int)))] []
theorem zKQ (l:List D):AC EN Tryz.prog 76 [.sl 55 l] (.c (.bool (insY litW l))):=by
 refine zHZ 1 fun hL2 => ?_
 have hl:l.length<=9223372036854775807:=hL2.1
 clear hL2
 by_cases hbig:16<l.length
 . have f0:decide ((l.length:Int)>16)=true:=decide_eq_true (by omega)
   rw [show (insY litW l)=false by unfold insY;rw [decide_eq_false (show ¬ l.length<=16 by omega)];simp]
   refine zN 59 Tryz.func76 rfl rfl rfl rfl ?_
   intro s w he
   repeat' (first
|apply zG
 . conv=>lhs;whnf
 . assumption
|refine zA ?_
|refine zB ?_
|refine zH ?_
|apply aw_1
 conv=>whnf
 refine ⟨?_,trivial⟩
|apply s_1
 conv=>whnf;arg 1;arg 4;arg 3;whnf
 refine ⟨?_,?_⟩
|refine zO ?_
|refine zE ?_
|refine ⟨_,by conv=>lhs;whnf;arg 2;whnf,?_⟩;conv=>rhs;whnf
|exact trivial)
   all_goals first
    |rfl
    |skip
 have f0:decide ((l.length:Int)>16)=false:=decide_eq_false (by omega)
 have hR:(insY litW l)=zAU (inY litW) l l.length 0:=by unfold insY;rw [decide_eq_true (show l.length<=16 by omega),zBA,Bool.true_and]
 generalize (insY litW l)=R at hR |-
 refine zN 59 Tryz.func76 rfl rfl rfl rfl ?_
 intro s w he
 repeat' (first
|apply zC
 . conv=>lhs;whnf
 . assumption
|refine zA ?_
|refine zB ?_
|refine zH ?_
|apply aw_1
 conv=>whnf
 refine ⟨?_,trivial⟩
|apply s_1
 conv=>whnf;arg 1;arg 4;arg 3;whnf
 refine ⟨?_,?_⟩
|exact trivial)
 refine zi (fun j st => ∃ i,i+j=l.length/\R=zAU (inY litW) l j i/\Sub (cx EN Tryz.prog s w he) st (HinsFU l i)) l.length ⟨0,by omega,hR,Sub.live ⟨rfl,rfl,trivial⟩ trivial⟩ ?_
 clear hR f0
 rintro j st ⟨i,hij,hR,hs2⟩
 refine zg hs2 ?_
 clear hs2
 by_cases hi:i<l.length
 . obtain ⟨j,rfl⟩ : ∃ q,j=q+1:=⟨j-1,by omega⟩
   have f1:decide ((i:Int)<(l.length:Nat))=true:=decide_eq_true (by omega)
   have hR':R=(inY litW (gD l i)&&zAU (inY litW) l j (i+1)):=hR
   clear hR
   have h1:=zAu ((gD l i).f 0).s
   have h2:=zJ2 ((gD l i).f 1)
   have h3:=zD3 ((gD l i).f 4).l
   have h4:=zKH ((gD l i).f 3)
   have h5:=zFi ((gD l i).f 3)
   have h6:=nullF_ac ((gD l i).f 3)
   have e:inY litW (gD l i)=(nameB ((gD l i).f 0).s&&refR ((gD l i).f 1)&&dirsY litW ((gD l i).f 4).l&&(if ((gD l i).f 2).b=true then litW ((gD l i).f 3)&&bareR (bulkD ((gD l i).f 3)) ((gD l i).f 3) else nullB ((gD l i).f 3))):=inY_eq _
   generalize nameB ((gD l i).f 0).s=a at h1 e
   generalize refR ((gD l i).f 1)=b at h2 e
   generalize dirsY litW ((gD l i).f 4).l=c at h3 e
   generalize litW ((gD l i).f 3)=v at h4 e
   generalize bareR (bulkD ((gD l i).f 3)) ((gD l i).f 3)=w2 at h5 e
   generalize nullB ((gD l i).f 3)=nu at h6 e
   repeat' (first
|apply zAj rfl rfl rfl
 . conv=>lhs;whnf
 . first | rfl | assumption
 . conv=>lhs;whnf
 . first | exact bT1 ‹_› | exact bT2 ‹_› | rfl
|apply zAe rfl rfl rfl
 . conv=>lhs;whnf
 . first | rfl | assumption
 . conv=>lhs;whnf
 . first | exact bF1 ‹_› | exact bF2 ‹_› | rfl
|apply zG
 . conv=>lhs;whnf
 . assumption
|refine zA ?_
|refine zB ?_
|refine zH ?_
|refine zR ?_
|apply aw_1
 conv=>whnf
 refine ⟨?_,trivial⟩
|apply zq rfl rfl
 . conv=>lhs;whnf
 . conv=>lhs;whnf
 . first | exact bT1 ‹_› | exact bT2 ‹_›
|apply za rfl rfl
 . conv=>lhs;whnf
 . conv=>lhs;whnf
 . first | exact bF1 ‹_› | exact bF2 ‹_›
|apply s_1
 conv=>whnf;arg 1;arg 4;arg 3;whnf
 refine ⟨?_,?_⟩
|apply ze rfl
 . conv=>lhs;whnf
 . conv=>lhs;whnf
 . first | exact h1 | exact h2 | exact h3 | exact h4 | exact h5 | exact h6
|apply zS rfl rfl rfl
 . conv=>lhs;whnf
 . conv=>lhs;whnf;arg 1;whnf
 . conv=>lhs;whnf;arg 1;whnf
 . exact ⟨by kernel_rfl,by kernel_rfl⟩
 . rfl
|apply zL rfl
 . conv=>lhs;whnf
 . conv=>lhs;whnf
 . first | rfl | assumption
 . conv=>lhs;whnf;arg 2;whnf
|apply zY rfl
 . conv=>lhs;whnf
 . conv=>lhs;whnf
 . first | rfl | assumption
 . conv=>lhs;whnf
 . first | exact h1 | exact h2 | exact h3 | exact h4 | exact h5 | exact h6
|apply zr rfl
 . conv=>lhs;whnf
 . conv=>lhs;whnf
 . first | rfl | assumption
|apply zF rfl
 . conv=>lhs;whnf
 . conv=>lhs;whnf
 . conv=>lhs;whnf;arg 2;whnf
|refine zZ (by conv=>lhs;whnf) ?_ ?_<;>intro hb
|refine zO ?_
|refine zQ ?_
|refine zy ?_
|refine zE ?_
|refine ⟨_,by conv=>lhs;whnf;arg 2;whnf,?_⟩;conv=>rhs;whnf
|exact trivial
|intro hg)
   all_goals first
    |exact zU (by omega)
    |exact zAI hi
    |(have e2:inY litW (gD l i)=false:=by
       rw [e];clear e hR' he
       simp_all
      rw [hR',e2];rfl)
    |(have e2:inY litW (gD l i)=true:=by
       rw [e];clear e hR' he
       simp_all
      exact zI (j':=j) (by omega) ⟨i+1,by omega,by rw [hR',e2,Bool.true_and],Sub.live ⟨rfl,rfl,trivial⟩ trivial⟩)
    |skip
 . obtain rfl:j=0:=by omega
   have f1:decide ((i:Int)<(l.length:Nat))=false:=decide_eq_false (by omega)
   repeat' (first
|apply zC
 . conv=>lhs;whnf
 . assumption
|refine zA ?_
|refine zB ?_
|refine zH ?_
|apply aw_1
 conv=>whnf
 refine ⟨?_,trivial⟩
|apply s_1
 conv=>whnf;arg 1;arg 4;arg 3;whnf
 refine ⟨?_,?_⟩
|refine zM ?_
|refine zK rfl ?_
|refine zJ ?_
|refine zE ?_
|refine ⟨_,by conv=>lhs;whnf;arg 2;whnf,?_⟩;conv=>rhs;whnf
|exact trivial)
   rw [hR];rfl
noncomputable def HfdsFU (l:List D) (i:Nat):Vst 52:=stS 52 [(0,.sl 50 l),(3,.c (.int .i64 (i:Int)))] []
theorem fdsFU_ac (l:List D):AC EN Tryz.prog 74 [.sl 50 l] (.c (.bool ((!decide (l.length=0))&&fdsY litW l))):=by
 refine zHZ 1 fun hL2 => ?_
 have hl:l.length<=9223372036854775807:=hL2.1
 clear hL2
 by_cases h0:l.length=0
 . have f00:decide ((l.length:Int)<1)=true:=decide_eq_true (by omega)
   have K1:(decide ((l.length:Int)<1)==false)=true->False:=fun h=>by rw [f00] at h;cases h
   rw [show ((!decide (l.length=0))&&fdsY litW l)=false by rw [decide_eq_true h0];rfl]
   refine zN 52 Tryz.func74 rfl rfl rfl rfl ?_
   intro s w he
   repeat' (first
|exact (K1 ‹_›).elim
|refine zA ?_
|refine zB ?_
|refine zH ?_
|apply aw_1
 conv=>whnf
 refine ⟨?_,trivial⟩
|apply zq rfl rfl
 . conv=>lhs;whnf
 . conv=>lhs;whnf
 . first | exact bT1 ‹_› | exact bT2 ‹_›
|apply s_1
 conv=>whnf;arg 1;arg 4;arg 3;whnf
 refine ⟨?_,?_⟩
|apply zr rfl
 . conv=>lhs;whnf
 . conv=>lhs;whnf
 . first | rfl | assumption
|apply zF rfl
 . conv=>lhs;whnf
 . conv=>lhs;whnf
 . conv=>lhs;whnf;arg 2;whnf
|refine zO ?_
|refine zE ?_
|refine ⟨_,by conv=>lhs;whnf;arg 2;whnf,?_⟩;conv=>rhs;whnf
|exact trivial
|intro hg)
   all_goals first
    |rfl
    |skip
 have f00:decide ((l.length:Int)<1)=false:=decide_eq_false (by omega)
 have K1:(decide ((l.length:Int)<1)==false)=false->False:=fun h=>by rw [f00] at h;cases h
 by_cases hbig:64<l.length
 . have f0:decide ((l.length:Int)>64)=true:=decide_eq_true (by omega)
   rw [show ((!decide (l.length=0))&&fdsY litW l)=false by unfold fdsY;rw [decide_eq_false (show ¬ l.length<=64 by omega)];simp]
   refine zN 52 Tryz.func74 rfl rfl rfl rfl ?_
   intro s w he
   repeat' (first
|apply zG
 . conv=>lhs;whnf
 . assumption
|exact (K1 ‹_›).elim
|refine zA ?_
|refine zB ?_
|refine zH ?_
|apply aw_1
 conv=>whnf
 refine ⟨?_,trivial⟩
|apply za rfl rfl
 . conv=>lhs;whnf
 . conv=>lhs;whnf
 . first | exact bF1 ‹_› | exact bF2 ‹_›
|apply s_1
 conv=>whnf;arg 1;arg 4;arg 3;whnf
 refine ⟨?_,?_⟩
|apply zL rfl
 . conv=>lhs;whnf
 . conv=>lhs;whnf
 . first | rfl | assumption
 . conv=>lhs;whnf;arg 2;whnf
|apply zF rfl
 . conv=>lhs;whnf
 . conv=>lhs;whnf
 . conv=>lhs;whnf;arg 2;whnf
|refine zO ?_
|refine zE ?_
|refine ⟨_,by conv=>lhs;whnf;arg 2;whnf,?_⟩;conv=>rhs;whnf
|exact trivial
|intro hg)
   all_goals first
    |rfl
    |skip
 have f0:decide ((l.length:Int)>64)=false:=decide_eq_false (by omega)
 have hR:((!decide (l.length=0))&&fdsY litW l)=zAU (fdY litW) l l.length 0:=by unfold fdsY;rw [decide_eq_true (show l.length<=64 by omega),zBA,Bool.true_and,decide_eq_false h0];rfl
 generalize ((!decide (l.length=0))&&fdsY litW l)=R at hR |-
 refine zN 52 Tryz.func74 rfl rfl rfl rfl ?_
 intro s w he
 repeat' (first
|apply zC
 . conv=>lhs;whnf
 . assumption
|exact (K1 ‹_›).elim
|refine zA ?_
|refine zB ?_
|refine zH ?_
|apply aw_1
 conv=>whnf
 refine ⟨?_,trivial⟩
|apply za rfl rfl
 . conv=>lhs;whnf
 . conv=>lhs;whnf
 . first | exact bF1 ‹_› | exact bF2 ‹_›
|apply s_1
 conv=>whnf;arg 1;arg 4;arg 3;whnf
 refine ⟨?_,?_⟩
|apply zL rfl
 . conv=>lhs;whnf
 . conv=>lhs;whnf
 . first | rfl | assumption
 . conv=>lhs;whnf;arg 2;whnf
|apply zF rfl
 . conv=>lhs;whnf
 . conv=>lhs;whnf
 . conv=>lhs;whnf;arg 2;whnf
|exact trivial
|intro hg)
 refine zi (fun j st => ∃ i,i+j=l.length/\R=zAU (fdY litW) l j i/\Sub (cx EN Tryz.prog s w he) st (HfdsFU l i)) l.length ⟨0,by omega,hR,Sub.live ⟨rfl,rfl,trivial⟩ trivial⟩ ?_
 clear hR f0 f00 K1
 rintro j st ⟨i,hij,hR,hs2⟩
 refine zg hs2 ?_
 clear hs2
 by_cases hi:i<l.length
 . obtain ⟨j,rfl⟩ : ∃ q,j=q+1:=⟨j-1,by omega⟩
   have f1:decide ((i:Int)<(l.length:Nat))=true:=decide_eq_true (by omega)
   have hR':R=(fdY litW (gD l i)&&zAU (fdY litW) l j (i+1)):=hR
   clear hR
   have h1:=zAu ((gD l i).f 0).s
   have h2:=zKQ ((gD l i).f 1).l
   have h3:=zJ2 ((gD l i).f 2)
   have h4:=zD3 ((gD l i).f 3).l
   have e:fdY litW (gD l i)=(nameB ((gD l i).f 0).s&&insY litW ((gD l i).f 1).l&&refR ((gD l i).f 2)&&dirsY litW ((gD l i).f 3).l):=rfl
   generalize nameB ((gD l i).f 0).s=a at h1 e
   generalize insY litW ((gD l i).f 1).l=b at h2 e
   generalize refR ((gD l i).f 2)=c at h3 e
   generalize dirsY litW ((gD l i).f 3).l=v at h4 e
   repeat' (first
|apply zG
 . conv=>lhs;whnf
 . assumption
|refine zA ?_
|refine zB ?_
|refine zH ?_
|refine zR ?_
|apply aw_1
 conv=>whnf
 refine ⟨?_,trivial⟩
|apply zq rfl rfl
 . conv=>lhs;whnf
 . conv=>lhs;whnf
 . first | exact bT1 ‹_› | exact bT2 ‹_›
|apply za rfl rfl
 . conv=>lhs;whnf
 . conv=>lhs;whnf
 . first | exact bF1 ‹_› | exact bF2 ‹_›
|apply s_1
 conv=>whnf;arg 1;arg 4;arg 3;whnf
 refine ⟨?_,?_⟩
|apply ze rfl
 . conv=>lhs;whnf
 . conv=>lhs;whnf
 . first | exact h1 | exact h2 | exact h3 | exact h4
|apply zL rfl
 . conv=>lhs;whnf
 . conv=>lhs;whnf
 . first | rfl | assumption
 . conv=>lhs;whnf;arg 2;whnf
|apply zY rfl
 . conv=>lhs;whnf
 . conv=>lhs;whnf
 . first | rfl | assumption
 . conv=>lhs;whnf
 . first | exact h1 | exact h2 | exact h3 | exact h4
|apply zr rfl
 . conv=>lhs;whnf
 . conv=>lhs;whnf
 . first | rfl | assumption
|apply zF rfl
 . conv=>lhs;whnf
 . conv=>lhs;whnf
 . conv=>lhs;whnf;arg 2;whnf
|refine zZ (by conv=>lhs;whnf) ?_ ?_<;>intro hb
|refine zO ?_
|refine zQ ?_
|refine zy ?_
|refine zE ?_
|refine ⟨_,by conv=>lhs;whnf;arg 2;whnf,?_⟩;conv=>rhs;whnf
|exact trivial
|intro hg)
   all_goals first
    |exact zU (by omega)
    |exact zAI hi
    |(have e2:fdY litW (gD l i)=false:=by
       rw [e];clear e hR' he
       simp_all
      rw [hR',e2];rfl)
    |(have e2:fdY litW (gD l i)=true:=by
       rw [e];clear e hR' he
       simp_all
      exact zI (j':=j) (by omega) ⟨i+1,by omega,by rw [hR',e2,Bool.true_and],Sub.live ⟨rfl,rfl,trivial⟩ trivial⟩)
    |skip
 . obtain rfl:j=0:=by omega
   have f1:decide ((i:Int)<(l.length:Nat))=false:=decide_eq_false (by omega)
   repeat' (first
|apply zC
 . conv=>lhs;whnf
 . assumption
|refine zA ?_
|refine zB ?_
|refine zH ?_
|apply aw_1
 conv=>whnf
 refine ⟨?_,trivial⟩
|apply s_1
 conv=>whnf;arg 1;arg 4;arg 3;whnf
 refine ⟨?_,?_⟩
|refine zM ?_
|refine zK rfl ?_
|refine zJ ?_
|refine zE ?_
|refine ⟨_,by conv=>lhs;whnf;arg 2;whnf,?_⟩;conv=>rhs;whnf
|exact trivial)
   rw [hR];rfl
noncomputable def HmbsFU (l:List D) (u:Bool) (i:Nat):Vst 48:=stS 48 [(0,.sl 79 l),(1,.c (.bool u)),(5,.c (.int .i64 (i:Int)))] []
theorem zKD (l:List D) (u:Bool):AC EN Tryz.prog 75 [.sl 79 l,.c (.bool u)] (.c (.bool ((!decide (l.length=0))&&mbsY litW u l))):=by
 refine zHZ 1 fun hL2 => ?_
 have hl:l.length<=9223372036854775807:=hL2.1
 clear hL2
 by_cases h0:l.length=0
 . have f00:decide ((l.length:Int)<1)=true:=decide_eq_true (by omega)
   have K1:(decide ((l.length:Int)<1)==false)=true->False:=fun h=>by rw [f00] at h;cases h
   rw [show ((!decide (l.length=0))&&mbsY litW u l)=false by rw [decide_eq_true h0];rfl]
   refine zN 48 Tryz.func75 rfl rfl rfl rfl ?_
   intro s w he
   repeat' (first
|exact (K1 ‹_›).elim
|refine zA ?_
|refine zB ?_
|refine zH ?_
|apply aw_1
 conv=>whnf
 refine ⟨?_,trivial⟩
|apply zq rfl rfl
 . conv=>lhs;whnf
 . conv=>lhs;whnf
 . first | exact bT1 ‹_› | exact bT2 ‹_›
|apply s_1
 conv=>whnf;arg 1;arg 4;arg 3;whnf
 refine ⟨?_,?_⟩
|apply zr rfl
 . conv=>lhs;whnf
 . conv=>lhs;whnf
 . first | rfl | assumption
|apply zF rfl
 . conv=>lhs;whnf
 . conv=>lhs;whnf
 . conv=>lhs;whnf;arg 2;whnf
|refine zO ?_
|refine zE ?_
|refine ⟨_,by conv=>lhs;whnf;arg 2;whnf,?_⟩;conv=>rhs;whnf
|exact trivial
|intro hg)
   all_goals first
    |rfl
    |skip
 have f00:decide ((l.length:Int)<1)=false:=decide_eq_false (by omega)
 have K1:(decide ((l.length:Int)<1)==false)=false->False:=fun h=>by rw [f00] at h;cases h
 by_cases hbig:64<l.length
 . have f0:decide ((l.length:Int)>64)=true:=decide_eq_true (by omega)
   rw [show ((!decide (l.length=0))&&mbsY litW u l)=false by unfold mbsY;rw [decide_eq_false (show ¬ l.length<=64 by omega)];simp]
   refine zN 48 Tryz.func75 rfl rfl rfl rfl ?_
   intro s w he
   repeat' (first
|apply zG
 . conv=>lhs;whnf
 . assumption
|exact (K1 ‹_›).elim
|refine zA ?_
|refine zB ?_
|refine zH ?_
|apply aw_1
 conv=>whnf
 refine ⟨?_,trivial⟩
|apply za rfl rfl
 . conv=>lhs;whnf
 . conv=>lhs;whnf
 . first | exact bF1 ‹_› | exact bF2 ‹_›
|apply s_1
 conv=>whnf;arg 1;arg 4;arg 3;whnf
 refine ⟨?_,?_⟩
|apply zL rfl
 . conv=>lhs;whnf
 . conv=>lhs;whnf
 . first | rfl | assumption
 . conv=>lhs;whnf;arg 2;whnf
|apply zF rfl
 . conv=>lhs;whnf
 . conv=>lhs;whnf
 . conv=>lhs;whnf;arg 2;whnf
|refine zO ?_
|refine zE ?_
|refine ⟨_,by conv=>lhs;whnf;arg 2;whnf,?_⟩;conv=>rhs;whnf
|exact trivial
|intro hg)
   all_goals first
    |rfl
    |skip
 have f0:decide ((l.length:Int)>64)=false:=decide_eq_false (by omega)
 have hR:((!decide (l.length=0))&&mbsY litW u l)=zAU (mbY litW u) l l.length 0:=by unfold mbsY;rw [decide_eq_true (show l.length<=64 by omega),zBA,Bool.true_and,decide_eq_false h0];rfl
 generalize ((!decide (l.length=0))&&mbsY litW u l)=R at hR |-
 refine zN 48 Tryz.func75 rfl rfl rfl rfl ?_
 intro s w he
 repeat' (first
|apply zC
 . conv=>lhs;whnf
 . assumption
|exact (K1 ‹_›).elim
|refine zA ?_
|refine zB ?_
|refine zH ?_
|apply aw_1
 conv=>whnf
 refine ⟨?_,trivial⟩
|apply za rfl rfl
 . conv=>lhs;whnf
 . conv=>lhs;whnf
 . first | exact bF1 ‹_› | exact bF2 ‹_›
|apply s_1
 conv=>whnf;arg 1;arg 4;arg 3;whnf
 refine ⟨?_,?_⟩
|apply zL rfl
 . conv=>lhs;whnf
 . conv=>lhs;whnf
 . first | rfl | assumption
 . conv=>lhs;whnf;arg 2;whnf
|apply zF rfl
 . conv=>lhs;whnf
 . conv=>lhs;whnf
 . conv=>lhs;whnf;arg 2;whnf
|exact trivial
|intro hg)
 refine zi (fun j st => ∃ i,i+j=l.length/\R=zAU (mbY litW u) l j i/\Sub (cx EN Tryz.prog s w he) st (HmbsFU l u i)) l.length ⟨0,by omega,hR,Sub.live ⟨rfl,rfl,rfl,trivial⟩ trivial⟩ ?_
 clear hR f0 f00 K1
 rintro j st ⟨i,hij,hR,hs2⟩
 refine zg hs2 ?_
 clear hs2
 by_cases hi:i<l.length
 . obtain ⟨j,rfl⟩ : ∃ q,j=q+1:=⟨j-1,by omega⟩
   have f1:decide ((i:Int)<(l.length:Nat))=true:=decide_eq_true (by omega)
   have hR':R=(mbY litW u (gD l i)&&zAU (mbY litW u) l j (i+1)):=hR
   clear hR
   have h1:=zAu ((gD l i).f 0).s
   have h2:=zD3 ((gD l i).f 1).l
   have e:mbY litW u (gD l i)=(nameB ((gD l i).f 0).s&&dirsY litW ((gD l i).f 1).l&&(!u || !decide ((((gD l i).f 1).l.length:Int)>0))):=by
    have hz:decide (((gD l i).f 1).l.length=0) = !(decide ((((gD l i).f 1).l.length:Int)>0)):=by
     by_cases h0:((gD l i).f 1).l.length=0
     . rw [decide_eq_true h0,decide_eq_false (by omega)];rfl
     . rw [decide_eq_false h0,decide_eq_true (by omega)];rfl
    unfold mbY;rw [hz]
   generalize nameB ((gD l i).f 0).s=a at h1 e
   generalize dirsY litW ((gD l i).f 1).l=b at h2 e
   repeat' (first
|apply zAj rfl rfl rfl
 . conv=>lhs;whnf
 . first | rfl | assumption
 . conv=>lhs;whnf
 . first | exact bT1 ‹_› | exact bT2 ‹_› | rfl
|apply zAe rfl rfl rfl
 . conv=>lhs;whnf
 . first | rfl | assumption
 . conv=>lhs;whnf
 . first | exact bF1 ‹_› | exact bF2 ‹_› | rfl
|apply zG
 . conv=>lhs;whnf
 . assumption
|refine zA ?_
|refine zB ?_
|refine zH ?_
|refine zR ?_
|apply aw_1
 conv=>whnf
 refine ⟨?_,trivial⟩
|apply zq rfl rfl
 . conv=>lhs;whnf
 . conv=>lhs;whnf
 . first | exact bT1 ‹_› | exact bT2 ‹_›
|apply za rfl rfl
 . conv=>lhs;whnf
 . conv=>lhs;whnf
 . first | exact bF1 ‹_› | exact bF2 ‹_›
|apply s_1
 conv=>whnf;arg 1;arg 4;arg 3;whnf
 refine ⟨?_,?_⟩
|apply ze rfl
 . conv=>lhs;whnf
 . conv=>lhs;whnf
 . first | exact h1 | exact h2
|apply zL rfl
 . conv=>lhs;whnf
 . conv=>lhs;whnf
 . first | rfl | assumption
 . conv=>lhs;whnf;arg 2;whnf
|apply zY rfl
 . conv=>lhs;whnf
 . conv=>lhs;whnf
 . first | rfl | assumption
 . conv=>lhs;whnf
 . first | exact h1 | exact h2
|apply zr rfl
 . conv=>lhs;whnf
 . conv=>lhs;whnf
 . first | rfl | assumption
|apply zF rfl
 . conv=>lhs;whnf
 . conv=>lhs;whnf
 . conv=>lhs;whnf;arg 2;whnf
|refine zZ (by conv=>lhs;whnf) ?_ ?_<;>intro hb
|refine zO ?_
|refine zQ ?_
|refine zy ?_
|refine zE ?_
|refine ⟨_,by conv=>lhs;whnf;arg 2;whnf,?_⟩;conv=>rhs;whnf
|exact trivial
|intro hg)
   all_goals first
    |exact zU (by omega)
    |exact zAI hi
    |(have e2:mbY litW u (gD l i)=false:=by
       rw [e];clear e hR' he
       simp_all
      rw [hR',e2];rfl)
    |(have e2:mbY litW u (gD l i)=true:=by
       rw [e];clear e hR' he
       simp_all
      exact zI (j':=j) (by omega) ⟨i+1,by omega,by rw [hR',e2,Bool.true_and],Sub.live ⟨rfl,rfl,rfl,trivial⟩ trivial⟩)
    |skip
 . obtain rfl:j=0:=by omega
   have f1:decide ((i:Int)<(l.length:Nat))=false:=decide_eq_false (by omega)
   repeat' (first
|apply zC
 . conv=>lhs;whnf
 . assumption
|refine zA ?_
|refine zB ?_
|refine zH ?_
|apply aw_1
 conv=>whnf
 refine ⟨?_,trivial⟩
|apply s_1
 conv=>whnf;arg 1;arg 4;arg 3;whnf
 refine ⟨?_,?_⟩
|refine zM ?_
|refine zK rfl ?_
|refine zJ ?_
|refine zE ?_
|refine ⟨_,by conv=>lhs;whnf;arg 2;whnf,?_⟩;conv=>rhs;whnf
|exact trivial)
   rw [hR];rfl
end
section
open Go.RowKit
set_option linter.unusedSectionVars false
def defK (d:D):Bool:=
 if (d.f 0).n=1 then ((!decide ((d.f 4).l.length=0))&&fdsY litW (d.f 4).l)&&decide ((d.f 5).l.length=0)&&decide ((d.f 6).l.length=0)
 else if (d.f 0).n=2 then decide ((d.f 2).l.length=0)&&((!decide ((d.f 4).l.length=0))&&fdsY litW (d.f 4).l)&&decide ((d.f 5).l.length=0)&&decide ((d.f 6).l.length=0)
 else if (d.f 0).n=3 then decide ((d.f 2).l.length=0)&&decide ((d.f 4).l.length=0)&&((!decide ((d.f 5).l.length=0))&&mbsY litW true (d.f 5).l)&&decide ((d.f 6).l.length=0)
 else if (d.f 0).n=4 then decide ((d.f 2).l.length=0)&&decide ((d.f 4).l.length=0)&&((!decide ((d.f 5).l.length=0))&&mbsY litW false (d.f 5).l)&&decide ((d.f 6).l.length=0)
 else if (d.f 0).n=5 then decide ((d.f 2).l.length=0)&&decide ((d.f 4).l.length=0)&&decide ((d.f 5).l.length=0)&&(!decide ((d.f 6).l.length=0))&&insY litW (d.f 6).l
 else false
theorem zG1 (n:Nat):decide (0<n) = !decide (n=0):=by
 by_cases h:n=0
 . subst h;rfl
 . rw [decide_eq_true (by omega),decide_eq_false h];rfl
theorem defY_K (d:D):defY litW d=(nameB (d.f 1).s&&dirsY litW (d.f 3).l&&imY (d.f 2).l&&defK d):=by
 have F0:decide ((d.f 4).l.length=0)=true->fdsY litW (d.f 4).l=true:=fun h=>by rw [List.eq_nil_of_length_eq_zero (of_decide_eq_true h)];rfl
 have M0 : ∀ u,decide ((d.f 5).l.length=0)=true->mbsY litW u (d.f 5).l=true:=fun u h=>by rw [List.eq_nil_of_length_eq_zero (of_decide_eq_true h)];rfl
 have M1:=M0 ((d.f 0).n==3)
 have M2:=M0 true
 have M3:=M0 false
 have I0:decide ((d.f 6).l.length=0)=true->insY litW (d.f 6).l=true:=fun h=>by rw [List.eq_nil_of_length_eq_zero (of_decide_eq_true h)];rfl
 unfold defY kindY defK
 rw [zG1,zG1,zG1,kind_dec]
 clear M0
 generalize (d.f 0).n=n at *
 by_cases n1:n=1
 . subst n1
   rw [show ((1:Int)==3)=false from rfl] at *
   generalize fdsY litW (d.f 4).l=F at *
   generalize mbsY litW false (d.f 5).l=M at *
   generalize mbsY litW true (d.f 5).l=M' at *
   generalize insY litW (d.f 6).l=I at *
   generalize decide ((d.f 2).l.length=0)=z2 at *
   generalize decide ((d.f 4).l.length=0)=z4 at *
   generalize decide ((d.f 5).l.length=0)=z5 at *
   generalize decide ((d.f 6).l.length=0)=z6 at *
   generalize nameB (d.f 1).s=nm at *
   generalize dirsY litW (d.f 3).l=ds at *
   generalize imY (d.f 2).l=im at *
   cases z4<;>cases z5<;>cases z6<;>simp_all
 by_cases n2:n=2
 . subst n2
   rw [show ((2:Int)==3)=false from rfl] at *
   generalize fdsY litW (d.f 4).l=F at *
   generalize mbsY litW false (d.f 5).l=M at *
   generalize mbsY litW true (d.f 5).l=M' at *
   generalize insY litW (d.f 6).l=I at *
   generalize decide ((d.f 2).l.length=0)=z2 at *
   generalize decide ((d.f 4).l.length=0)=z4 at *
   generalize decide ((d.f 5).l.length=0)=z5 at *
   generalize decide ((d.f 6).l.length=0)=z6 at *
   generalize nameB (d.f 1).s=nm at *
   generalize dirsY litW (d.f 3).l=ds at *
   generalize imY (d.f 2).l=im at *
   cases z4<;>cases z5<;>cases z6<;>cases z2<;>simp_all
 by_cases n3:n=3
 . subst n3
   rw [show ((3:Int)==3)=true from rfl] at *
   generalize fdsY litW (d.f 4).l=F at *
   generalize mbsY litW false (d.f 5).l=M at *
   generalize mbsY litW true (d.f 5).l=M' at *
   generalize insY litW (d.f 6).l=I at *
   generalize decide ((d.f 2).l.length=0)=z2 at *
   generalize decide ((d.f 4).l.length=0)=z4 at *
   generalize decide ((d.f 5).l.length=0)=z5 at *
   generalize decide ((d.f 6).l.length=0)=z6 at *
   generalize nameB (d.f 1).s=nm at *
   generalize dirsY litW (d.f 3).l=ds at *
   generalize imY (d.f 2).l=im at *
   cases z4<;>cases z5<;>cases z6<;>cases z2<;>simp_all
 by_cases n4:n=4
 . subst n4
   rw [show ((4:Int)==3)=false from rfl] at *
   generalize fdsY litW (d.f 4).l=F at *
   generalize mbsY litW false (d.f 5).l=M at *
   generalize mbsY litW true (d.f 5).l=M' at *
   generalize insY litW (d.f 6).l=I at *
   generalize decide ((d.f 2).l.length=0)=z2 at *
   generalize decide ((d.f 4).l.length=0)=z4 at *
   generalize decide ((d.f 5).l.length=0)=z5 at *
   generalize decide ((d.f 6).l.length=0)=z6 at *
   generalize nameB (d.f 1).s=nm at *
   generalize dirsY litW (d.f 3).l=ds at *
   generalize imY (d.f 2).l=im at *
   cases z4<;>cases z5<;>cases z6<;>cases z2<;>simp_all
 by_cases n5:n=5
 . subst n5
   rw [show ((5:Int)==3)=false from rfl] at *
   generalize fdsY litW (d.f 4).l=F at *
   generalize mbsY litW false (d.f 5).l=M at *
   generalize mbsY litW true (d.f 5).l=M' at *
   generalize insY litW (d.f 6).l=I at *
   generalize decide ((d.f 2).l.length=0)=z2 at *
   generalize decide ((d.f 4).l.length=0)=z4 at *
   generalize decide ((d.f 5).l.length=0)=z5 at *
   generalize decide ((d.f 6).l.length=0)=z6 at *
   generalize nameB (d.f 1).s=nm at *
   generalize dirsY litW (d.f 3).l=ds at *
   generalize imY (d.f 2).l=im at *
   cases z4<;>cases z5<;>cases z6<;>cases z2<;>simp_all
 rw [beq_eq_false_iff_ne.2 n1,beq_eq_false_iff_ne.2 n2,beq_eq_false_iff_ne.2 n3,beq_eq_false_iff_ne.2 n4,beq_eq_false_iff_ne.2 n5,if_neg n1,if_neg n2,if_neg n3,if_neg n4,if_neg n5]
 simp
attribute [local irreducible] wpList Calls Code.wp AW AWo OpOk seqK zz z8 loopK endK AC zl Yld Sub
attribute [local irreducible] ACB ACX ACE absLexG YldG absLexH YldU
noncomputable def HdefU (d:D) (i:Nat):Vst 129:=stS 129 [(1,.bx 1 0),(3,.c (.int .i64 (i:Int)))] [(1,.box 45 (cellsV Tryz.prog 12 45 d))]
theorem defFU_ac (d:D) (hl:(d.f 2).l.length<=9223372036854775807):AC EN Tryz.prog 35 [.agg (cellsV Tryz.prog 12 45 d)] (.c (.bool (defY litW d))):=by
 have h1:=zAu (d.f 1).s
 have h2:=zD3 (d.f 3).l
 have h3:=fdsFU_ac (d.f 4).l
 have h4:=zKD (d.f 5).l true
 have h5:=zKD (d.f 5).l false
 have h6:=zKQ (d.f 6).l
 have hY:=defY_K d
 by_cases hbad:nameB (d.f 1).s=true/\dirsY litW (d.f 3).l=true/\(d.f 2).l.length<=64
 rotate_left 1
 . have hf:defY litW d=false:=by
    rw [hY]
    unfold imY
    by_cases q:(d.f 2).l.length<=64
    . rw [decide_eq_true q]
      generalize nameB (d.f 1).s=a at *
      generalize dirsY litW (d.f 3).l=b at *
      cases a<;>cases b<;>simp_all
    . rw [decide_eq_false q];simp
   have hz:decide (((d.f 2).l.length:Int)>64) = !decide ((d.f 2).l.length<=64):=by
    rw [Bool.eq_iff_iff];simp;omega
   rw [hf]
   clear hf hY h3 h4 h5 h6
   generalize nameB (d.f 1).s=a at *
   generalize dirsY litW (d.f 3).l=b at *
   generalize decide ((d.f 2).l.length<=64)=c at *
   refine zN 129 Tryz.func35 rfl rfl rfl rfl ?_
   intro s w he
   cases a with
   |false =>
    have K:((!false)==false)=true->False:=by decide
    repeat' (first
|refine zA ?_
|refine zB ?_
|refine zH ?_
|apply aw_1
 conv=>whnf
 refine ⟨?_,trivial⟩
|apply s_1
 conv=>whnf;arg 1;arg 4;arg 3;whnf
 refine ⟨?_,?_⟩
|apply ze rfl
 . conv=>lhs;whnf
 . conv=>lhs;whnf
 . first | exact h1
|apply zAL rfl rfl rfl rfl
 . conv=>lhs;whnf;arg 1;whnf
 . rfl
|refine zO ?_
|refine zE ?_
|refine ⟨_,by conv=>lhs;whnf;arg 2;whnf,?_⟩;conv=>rhs;whnf
|exact trivial)
    all_goals first
     |rfl
     |skip
   |true =>
    have K:((!true)==false)=false->False:=by decide
    cases b with
    |false =>
     repeat' (first
|refine zA ?_
|refine zB ?_
|refine zH ?_
|apply aw_1
 conv=>whnf
 refine ⟨?_,trivial⟩
|apply s_1
 conv=>whnf;arg 1;arg 4;arg 3;whnf
 refine ⟨?_,?_⟩
|apply ze rfl
 . conv=>lhs;whnf
 . conv=>lhs;whnf
 . first | exact h1 | exact h2
|apply zAL rfl rfl rfl rfl
 . conv=>lhs;whnf;arg 1;whnf
 . rfl
|apply zY rfl
 . conv=>lhs;whnf
 . conv=>lhs;whnf
 . first | rfl | assumption
 . conv=>lhs;whnf
 . first | exact h1 | exact h2
|refine zO ?_
|refine zE ?_
|refine ⟨_,by conv=>lhs;whnf;arg 2;whnf,?_⟩;conv=>rhs;whnf
|exact trivial)
     all_goals first
      |rfl
      |skip
    |true =>
     have f1:decide (((d.f 2).l.length:Int)>64)=true:=decide_eq_true (by simp at hbad;omega)
     repeat' (first
|apply zG
 . conv=>lhs;whnf
 . assumption
|refine zA ?_
|refine zB ?_
|refine zH ?_
|apply aw_1
 conv=>whnf
 refine ⟨?_,trivial⟩
|apply s_1
 conv=>whnf;arg 1;arg 4;arg 3;whnf
 refine ⟨?_,?_⟩
|apply ze rfl
 . conv=>lhs;whnf
 . conv=>lhs;whnf
 . first | exact h1 | exact h2
|apply zAL rfl rfl rfl rfl
 . conv=>lhs;whnf;arg 1;whnf
 . rfl
|apply zY rfl
 . conv=>lhs;whnf
 . conv=>lhs;whnf
 . first | rfl | assumption
 . conv=>lhs;whnf
 . first | exact h1 | exact h2
|refine zO ?_
|refine zE ?_
|refine ⟨_,by conv=>lhs;whnf;arg 2;whnf,?_⟩;conv=>rhs;whnf
|exact trivial)
     all_goals first
      |rfl
      |skip
 obtain ⟨ha,hb,h64⟩:=hbad
 rw [ha] at h1
 rw [hb] at h2
 have hR:defY litW d=(zAU (fun x=>nameB x.s) (d.f 2).l (d.f 2).l.length 0&&defK d):=by
  rw [hY,ha,hb,zBA]
  unfold imY
  rw [decide_eq_true h64];rfl
 clear hY
 generalize defY litW d=R at hR |-
 have f0:decide (((d.f 2).l.length:Int)>64)=false:=decide_eq_false (by omega)
 have K:((!true)==false)=false->False:=by decide
 refine zN 129 Tryz.func35 rfl rfl rfl rfl ?_
 intro s w he
 repeat' (first
|apply zC
 . conv=>lhs;whnf
 . assumption
|refine zA ?_
|refine zB ?_
|refine zH ?_
|apply aw_1
 conv=>whnf
 refine ⟨?_,trivial⟩
|apply s_1
 conv=>whnf;arg 1;arg 4;arg 3;whnf
 refine ⟨?_,?_⟩
|apply ze rfl
 . conv=>lhs;whnf
 . conv=>lhs;whnf
 . first | exact h1 | exact h2
|apply zAL rfl rfl rfl rfl
 . conv=>lhs;whnf;arg 1;whnf
 . rfl
|apply zY rfl
 . conv=>lhs;whnf
 . conv=>lhs;whnf
 . first | rfl | assumption
 . conv=>lhs;whnf
 . first | exact h1 | exact h2
|exact trivial)
 all_goals first
  |exact zU (by omega)
  |skip
 clear h1 h2 K f0
 refine zi (fun j st => ∃ i,i+j=(d.f 2).l.length/\R=(zAU (fun x=>nameB x.s) (d.f 2).l j i&&defK d)/\Sub (cx EN Tryz.prog s w he) st (HdefU d i)) (d.f 2).l.length ⟨0,by omega,hR,Sub.live ⟨rfl,rfl,trivial⟩ ⟨rfl,trivial⟩⟩ ?_
 clear hR
 rintro j st ⟨i,hij,hR,hs2⟩
 refine zg hs2 ?_
 clear hs2
 by_cases hi:i<(d.f 2).l.length
 . obtain ⟨j,rfl⟩ : ∃ q,j=q+1:=⟨j-1,by omega⟩
   have f1:decide ((i:Int)<((d.f 2).l.length:Nat))=true:=decide_eq_true (by omega)
   have hR':R=(nameB (gD (d.f 2).l i).s&&zAU (fun x=>nameB x.s) (d.f 2).l j (i+1)&&defK d):=hR
   clear hR
   have hn1:=zAu (gD (d.f 2).l i).s
   repeat' (first
|apply zG
 . conv=>lhs;whnf
 . assumption
|refine zA ?_
|refine zB ?_
|refine zH ?_
|refine zR ?_
|apply aw_1
 conv=>whnf
 refine ⟨?_,trivial⟩
|apply s_1
 conv=>whnf;arg 1;arg 4;arg 3;whnf
 refine ⟨?_,?_⟩
|apply ze rfl
 . conv=>lhs;whnf
 . conv=>lhs;whnf
 . first | exact hn1
|refine zZ (by conv=>lhs;whnf) ?_ ?_<;>intro hb
|refine zO ?_
|refine zQ ?_
|refine zy ?_
|refine zE ?_
|refine ⟨_,by conv=>lhs;whnf;arg 2;whnf,?_⟩;conv=>rhs;whnf
|exact trivial)
   all_goals first
    |exact zU (by omega)
    |exact zAI hi
    |(have e:nameB (gD (d.f 2).l i).s=false:=by simpa using (by assumption:(!nameB (gD (d.f 2).l i).s)=true)
      rw [hR',e];rfl)
    |(have e:nameB (gD (d.f 2).l i).s=true:=by simpa using (by assumption:(!nameB (gD (d.f 2).l i).s)=false)
      exact zI (j':=j) (by omega) ⟨i+1,by omega,by rw [hR',e,Bool.true_and],Sub.live ⟨rfl,rfl,trivial⟩ ⟨rfl,trivial⟩⟩)
    |skip
 . obtain rfl:j=0:=by omega
   have f1:decide ((i:Int)<((d.f 2).l.length:Nat))=false:=decide_eq_false (by omega)
   have hRK:R=defK d:=by rw [hR,zAU,Bool.true_and]
   clear hR
   have z2:(((d.f 2).l.length:Int)==0)=decide ((d.f 2).l.length=0):=by rw [Bool.eq_iff_iff];simp only [beq_iff_eq,decide_eq_true_eq];omega
   have z4:(((d.f 4).l.length:Int)==0)=decide ((d.f 4).l.length=0):=by rw [Bool.eq_iff_iff];simp only [beq_iff_eq,decide_eq_true_eq];omega
   have z5:(((d.f 5).l.length:Int)==0)=decide ((d.f 5).l.length=0):=by rw [Bool.eq_iff_iff];simp only [beq_iff_eq,decide_eq_true_eq];omega
   have z6:(((d.f 6).l.length:Int)==0)=decide ((d.f 6).l.length=0):=by rw [Bool.eq_iff_iff];simp only [beq_iff_eq,decide_eq_true_eq];omega
   have y6:decide (((d.f 6).l.length:Int)>0) = !decide ((d.f 6).l.length=0):=by rw [<- zG1];exact decide_eq_decide.2 (by omega)
   unfold defK at hRK
   generalize fdsY litW (d.f 4).l=F at *
   generalize mbsY litW true (d.f 5).l=M1 at *
   generalize mbsY litW false (d.f 5).l=M2 at *
   generalize insY litW (d.f 6).l=I at *
   have h9:(d.f 0).n=1\/(d.f 0).n=2\/(d.f 0).n=3\/(d.f 0).n=4\/(d.f 0).n=5\/((d.f 0).n≠1/\(d.f 0).n≠2/\(d.f 0).n≠3/\(d.f 0).n≠4/\(d.f 0).n≠5):=by omega
   rcases h9 with hn | hn | hn | hn | hn | hn
   . have g1:((d.f 0).n==1)=true:=by rw [hn];rfl
     rw [if_pos hn] at hRK
     repeat' (first
|apply zG
 . conv=>lhs;whnf
 . assumption
|apply zC
 . conv=>lhs;whnf
 . assumption
|refine zA ?_
|refine zB ?_
|refine zH ?_
|apply aw_1
 conv=>whnf
 refine ⟨?_,trivial⟩
|apply zq rfl rfl
 . conv=>lhs;whnf
 . conv=>lhs;whnf
 . first | exact bT1 ‹_› | exact bT2 ‹_›
|apply za rfl rfl
 . conv=>lhs;whnf
 . conv=>lhs;whnf
 . first | exact bF1 ‹_› | exact bF2 ‹_›
|apply s_1
 conv=>whnf;arg 1;arg 4;arg 3;whnf
 refine ⟨?_,?_⟩
|apply ze rfl
 . conv=>lhs;whnf
 . conv=>lhs;whnf
 . first | exact h3 | exact h4 | exact h5 | exact h6
|apply zF rfl
 . conv=>lhs;whnf
 . conv=>lhs;whnf
 . conv=>lhs;whnf;arg 2;whnf
|apply zAF (by kernel_rfl) (by kernel_rfl)
|apply zAs
|apply zAr rfl
 . conv=>lhs;whnf
 . conv=>lhs;whnf;arg 2;whnf
|exact zk
|exact zv
|exact (1000000:Nat)
|refine zM ?_
|refine zO ?_
|refine zQ ?_
|refine zK rfl ?_
|refine zJ ?_
|refine zE ?_
|refine ⟨_,by conv=>lhs;whnf;arg 2;whnf,?_⟩;conv=>rhs;whnf
|exact trivial
|intro hg)
     all_goals first
      |(rw [hRK];done)
      |(refine cB ?_
        clear h3 h4 h5 h6 he hn f1
        rw [hRK]
        simp only [z2,z4,z5,z6,y6] at *
        clear z2 z4 z5 z6 y6 hRK
        generalize decide ((d.f 2).l.length=0)=w2 at *
        generalize decide ((d.f 4).l.length=0)=w4 at *
        generalize decide ((d.f 5).l.length=0)=w5 at *
        generalize decide ((d.f 6).l.length=0)=w6 at *
        simp_all
        done)
      |exact (show Tryz.prog.underlying 4=some TypeDesc.bool by kernel_rfl)
      |skip
   . have g1:((d.f 0).n==1)=false:=by rw [hn];rfl
     have g2:((d.f 0).n==2)=true:=by rw [hn];rfl
     rw [if_neg (by omega),if_pos hn] at hRK
     repeat' (first
|apply zG
 . conv=>lhs;whnf
 . assumption
|apply zC
 . conv=>lhs;whnf
 . assumption
|refine zA ?_
|refine zB ?_
|refine zH ?_
|apply aw_1
 conv=>whnf
 refine ⟨?_,trivial⟩
|apply zq rfl rfl
 . conv=>lhs;whnf
 . conv=>lhs;whnf
 . first | exact bT1 ‹_› | exact bT2 ‹_›
|apply za rfl rfl
 . conv=>lhs;whnf
 . conv=>lhs;whnf
 . first | exact bF1 ‹_› | exact bF2 ‹_›
|apply s_1
 conv=>whnf;arg 1;arg 4;arg 3;whnf
 refine ⟨?_,?_⟩
|apply zL rfl
 . conv=>lhs;whnf
 . conv=>lhs;whnf
 . first | rfl | assumption
 . conv=>lhs;whnf;arg 2;whnf
|apply zY rfl
 . conv=>lhs;whnf
 . conv=>lhs;whnf
 . first | rfl | assumption
 . conv=>lhs;whnf
 . first | exact h3 | exact h4 | exact h5 | exact h6
|apply zr rfl
 . conv=>lhs;whnf
 . conv=>lhs;whnf
 . first | rfl | assumption
|apply zF rfl
 . conv=>lhs;whnf
 . conv=>lhs;whnf
 . conv=>lhs;whnf;arg 2;whnf
|apply zAF (by kernel_rfl) (by kernel_rfl)
|apply zAs
|apply zAr rfl
 . conv=>lhs;whnf
 . conv=>lhs;whnf;arg 2;whnf
|exact zk
|exact zv
|exact (1000000:Nat)
|refine zM ?_
|refine zO ?_
|refine zQ ?_
|refine zK rfl ?_
|refine zJ ?_
|refine zE ?_
|refine ⟨_,by conv=>lhs;whnf;arg 2;whnf,?_⟩;conv=>rhs;whnf
|exact trivial
|intro hg)
     all_goals first
      |(rw [hRK];done)
      |(refine cB ?_
        clear h3 h4 h5 h6 he hn f1
        rw [hRK]
        simp only [z2,z4,z5,z6,y6] at *
        clear z2 z4 z5 z6 y6 hRK
        generalize decide ((d.f 2).l.length=0)=w2 at *
        generalize decide ((d.f 4).l.length=0)=w4 at *
        generalize decide ((d.f 5).l.length=0)=w5 at *
        generalize decide ((d.f 6).l.length=0)=w6 at *
        simp_all
        done)
      |exact (show Tryz.prog.underlying 4=some TypeDesc.bool by kernel_rfl)
      |skip
   . have g1:((d.f 0).n==1)=false:=by rw [hn];rfl
     have g2:((d.f 0).n==2)=false:=by rw [hn];rfl
     have g3:((d.f 0).n==3)=true:=by rw [hn];rfl
     rw [if_neg (by omega),if_neg (by omega),if_pos hn] at hRK
     repeat' (first
|apply zG
 . conv=>lhs;whnf
 . assumption
|apply zC
 . conv=>lhs;whnf
 . assumption
|refine zA ?_
|refine zB ?_
|refine zH ?_
|apply aw_1
 conv=>whnf
 refine ⟨?_,trivial⟩
|apply zq rfl rfl
 . conv=>lhs;whnf
 . conv=>lhs;whnf
 . first | exact bT1 ‹_› | exact bT2 ‹_›
|apply za rfl rfl
 . conv=>lhs;whnf
 . conv=>lhs;whnf
 . first | exact bF1 ‹_› | exact bF2 ‹_›
|apply s_1
 conv=>whnf;arg 1;arg 4;arg 3;whnf
 refine ⟨?_,?_⟩
|apply zL rfl
 . conv=>lhs;whnf
 . conv=>lhs;whnf
 . first | rfl | assumption
 . conv=>lhs;whnf;arg 2;whnf
|apply zY rfl
 . conv=>lhs;whnf
 . conv=>lhs;whnf
 . first | rfl | assumption
 . conv=>lhs;whnf
 . first | exact h3 | exact h4 | exact h5 | exact h6
|apply zr rfl
 . conv=>lhs;whnf
 . conv=>lhs;whnf
 . first | rfl | assumption
|apply zF rfl
 . conv=>lhs;whnf
 . conv=>lhs;whnf
 . conv=>lhs;whnf;arg 2;whnf
|apply zAF (by kernel_rfl) (by kernel_rfl)
|apply zAs
|apply zAr rfl
 . conv=>lhs;whnf
 . conv=>lhs;whnf;arg 2;whnf
|exact zk
|exact zv
|exact (1000000:Nat)
|refine zM ?_
|refine zO ?_
|refine zQ ?_
|refine zK rfl ?_
|refine zJ ?_
|refine zE ?_
|refine ⟨_,by conv=>lhs;whnf;arg 2;whnf,?_⟩;conv=>rhs;whnf
|exact trivial
|intro hg)
     all_goals first
      |(rw [hRK];done)
      |(refine cB ?_
        clear h3 h4 h5 h6 he hn f1
        rw [hRK]
        simp only [z2,z4,z5,z6,y6] at *
        clear z2 z4 z5 z6 y6 hRK
        generalize decide ((d.f 2).l.length=0)=w2 at *
        generalize decide ((d.f 4).l.length=0)=w4 at *
        generalize decide ((d.f 5).l.length=0)=w5 at *
        generalize decide ((d.f 6).l.length=0)=w6 at *
        simp_all
        done)
      |exact (show Tryz.prog.underlying 4=some TypeDesc.bool by kernel_rfl)
      |skip
   . have g1:((d.f 0).n==1)=false:=by rw [hn];rfl
     have g2:((d.f 0).n==2)=false:=by rw [hn];rfl
     have g3:((d.f 0).n==3)=false:=by rw [hn];rfl
     have g4:((d.f 0).n==4)=true:=by rw [hn];rfl
     rw [if_neg (by omega),if_neg (by omega),if_neg (by omega),if_pos hn] at hRK
     repeat' (first
|apply zG
 . conv=>lhs;whnf
 . assumption
|apply zC
 . conv=>lhs;whnf
 . assumption
|refine zA ?_
|refine zB ?_
|refine zH ?_
|apply aw_1
 conv=>whnf
 refine ⟨?_,trivial⟩
|apply zq rfl rfl
 . conv=>lhs;whnf
 . conv=>lhs;whnf
 . first | exact bT1 ‹_› | exact bT2 ‹_›
|apply za rfl rfl
 . conv=>lhs;whnf
 . conv=>lhs;whnf
 . first | exact bF1 ‹_› | exact bF2 ‹_›
|apply s_1
 conv=>whnf;arg 1;arg 4;arg 3;whnf
 refine ⟨?_,?_⟩
|apply zL rfl
 . conv=>lhs;whnf
 . conv=>lhs;whnf
 . first | rfl | assumption
 . conv=>lhs;whnf;arg 2;whnf
|apply zY rfl
 . conv=>lhs;whnf
 . conv=>lhs;whnf
 . first | rfl | assumption
 . conv=>lhs;whnf
 . first | exact h3 | exact h4 | exact h5 | exact h6
|apply zr rfl
 . conv=>lhs;whnf
 . conv=>lhs;whnf
 . first | rfl | assumption
|apply zF rfl
 . conv=>lhs;whnf
 . conv=>lhs;whnf
 . conv=>lhs;whnf;arg 2;whnf
|apply zAF (by kernel_rfl) (by kernel_rfl)
|apply zAs
|apply zAr rfl
 . conv=>lhs;whnf
 . conv=>lhs;whnf;arg 2;whnf
|exact zk
|exact zv
|exact (1000000:Nat)
|refine zM ?_
|refine zO ?_
|refine zQ ?_
|refine zK rfl ?_
|refine zJ ?_
|refine zE ?_
|refine ⟨_,by conv=>lhs;whnf;arg 2;whnf,?_⟩;conv=>rhs;whnf
|exact trivial
|intro hg)
     all_goals first
      |(rw [hRK];done)
      |(refine cB ?_
        clear h3 h4 h5 h6 he hn f1
        rw [hRK]
        simp only [z2,z4,z5,z6,y6] at *
        clear z2 z4 z5 z6 y6 hRK
        generalize decide ((d.f 2).l.length=0)=w2 at *
        generalize decide ((d.f 4).l.length=0)=w4 at *
        generalize decide ((d.f 5).l.length=0)=w5 at *
        generalize decide ((d.f 6).l.length=0)=w6 at *
        simp_all
        done)
      |exact (show Tryz.prog.underlying 4=some TypeDesc.bool by kernel_rfl)
      |skip
   . have g1:((d.f 0).n==1)=false:=by rw [hn];rfl
     have g2:((d.f 0).n==2)=false:=by rw [hn];rfl
     have g3:((d.f 0).n==3)=false:=by rw [hn];rfl
     have g4:((d.f 0).n==4)=false:=by rw [hn];rfl
     have g5:((d.f 0).n==5)=true:=by rw [hn];rfl
     rw [if_neg (by omega),if_neg (by omega),if_neg (by omega),if_neg (by omega),if_pos hn] at hRK
     repeat' (first
|apply zG
 . conv=>lhs;whnf
 . assumption
|apply zC
 . conv=>lhs;whnf
 . assumption
|refine zA ?_
|refine zB ?_
|refine zH ?_
|apply aw_1
 conv=>whnf
 refine ⟨?_,trivial⟩
|apply zq rfl rfl
 . conv=>lhs;whnf
 . conv=>lhs;whnf
 . first | exact bT1 ‹_› | exact bT2 ‹_›
|apply za rfl rfl
 . conv=>lhs;whnf
 . conv=>lhs;whnf
 . first | exact bF1 ‹_› | exact bF2 ‹_›
|apply s_1
 conv=>whnf;arg 1;arg 4;arg 3;whnf
 refine ⟨?_,?_⟩
|apply zL rfl
 . conv=>lhs;whnf
 . conv=>lhs;whnf
 . first | rfl | assumption
 . conv=>lhs;whnf;arg 2;whnf
|apply zY rfl
 . conv=>lhs;whnf
 . conv=>lhs;whnf
 . first | rfl | assumption
 . conv=>lhs;whnf
 . first | exact h3 | exact h4 | exact h5 | exact h6
|apply zr rfl
 . conv=>lhs;whnf
 . conv=>lhs;whnf
 . first | rfl | assumption
|apply zF rfl
 . conv=>lhs;whnf
 . conv=>lhs;whnf
 . conv=>lhs;whnf;arg 2;whnf
|apply zAF (by kernel_rfl) (by kernel_rfl)
|apply zAs
|apply zAr rfl
 . conv=>lhs;whnf
 . conv=>lhs;whnf;arg 2;whnf
|exact zk
|exact zv
|exact (1000000:Nat)
|refine zM ?_
|refine zO ?_
|refine zQ ?_
|refine zK rfl ?_
|refine zJ ?_
|refine zE ?_
|refine ⟨_,by conv=>lhs;whnf;arg 2;whnf,?_⟩;conv=>rhs;whnf
|exact trivial
|intro hg)
     all_goals first
      |(rw [hRK];done)
      |(refine cB ?_
        clear h3 h4 h5 h6 he hn f1
        rw [hRK]
        simp only [z2,z4,z5,z6,y6] at *
        clear z2 z4 z5 z6 y6 hRK
        generalize decide ((d.f 2).l.length=0)=w2 at *
        generalize decide ((d.f 4).l.length=0)=w4 at *
        generalize decide ((d.f 5).l.length=0)=w5 at *
        generalize decide ((d.f 6).l.length=0)=w6 at *
        simp_all
        done)
      |exact (show Tryz.prog.underlying 4=some TypeDesc.bool by kernel_rfl)
      |skip
   . have g1:((d.f 0).n==1)=false:=by simpa using hn.1
     have g2:((d.f 0).n==2)=false:=by simpa using hn.2.1
     have g3:((d.f 0).n==3)=false:=by simpa using hn.2.2.1
     have g4:((d.f 0).n==4)=false:=by simpa using hn.2.2.2.1
     have g5:((d.f 0).n==5)=false:=by simpa using hn.2.2.2.2
     rw [if_neg (by omega),if_neg (by omega),if_neg (by omega),if_neg (by omega),if_neg (by omega)] at hRK
     repeat' (first
|apply zC
 . conv=>lhs;whnf
 . assumption
|refine zA ?_
|refine zB ?_
|refine zH ?_
|refine zR ?_
|apply aw_1
 conv=>whnf
 refine ⟨?_,trivial⟩
|apply s_1
 conv=>whnf;arg 1;arg 4;arg 3;whnf
 refine ⟨?_,?_⟩
|apply zAF (by kernel_rfl) (by kernel_rfl)
|apply zAs
|apply zAr rfl
 . conv=>lhs;whnf
 . conv=>lhs;whnf;arg 2;whnf
|exact zk
|exact zv
|exact (1000000:Nat)
|refine zM ?_
|refine zK rfl ?_
|refine zJ ?_
|refine zE ?_
|refine ⟨_,by conv=>lhs;whnf;arg 2;whnf,?_⟩;conv=>rhs;whnf
|exact trivial)
     all_goals first
      |(rw [hRK];done)
      |(refine cB ?_
        clear h3 h4 h5 h6 he hn f1
        rw [hRK]
        simp only [z2,z4,z5,z6,y6] at *
        clear z2 z4 z5 z6 y6 hRK
        generalize decide ((d.f 2).l.length=0)=w2 at *
        generalize decide ((d.f 4).l.length=0)=w4 at *
        generalize decide ((d.f 5).l.length=0)=w5 at *
        generalize decide ((d.f 6).l.length=0)=w6 at *
        simp_all
        done)
      |exact (show Tryz.prog.underlying 4=some TypeDesc.bool by kernel_rfl)
      |skip
noncomputable def HrFU (d:D) (i:Nat):Vst 28:=stS 28 [(1,.bx 1 0),(3,.c (.int .i64 (i:Int)))] [(1,.box 25 (cellsV Tryz.prog 12 25 d))]
theorem zGt (d:D):AC EN Tryz.prog 15 [.agg (cellsV Tryz.prog 12 25 d)] (.c (.bool (docY litW (d.f 0).l))):=by
 refine zEe 4 (by kernel_rfl) fun hL2 => ?_
 have hl:(d.f 0).l.length<=9223372036854775807:=len_doc hL2
 have hd:=fun i (hi:i<(d.f 0).l.length)=>defFU_ac (gD (d.f 0).l i) (len_im (len_defs hL2 i hi))
 clear hL2
 by_cases h0:(d.f 0).l.length=0
 . have f00:decide (((d.f 0).l.length:Int)<1)=true:=decide_eq_true (by omega)
   have K1:(decide (((d.f 0).l.length:Int)<1)==false)=true->False:=fun h=>by rw [f00] at h;cases h
   rw [show docY litW (d.f 0).l=false by unfold docY;rw [decide_eq_false (by omega)];rfl]
   refine zN 28 Tryz.func15 rfl rfl rfl rfl ?_
   intro s w he
   repeat' (first
|exact (K1 ‹_›).elim
|refine zA ?_
|refine zB ?_
|refine zH ?_
|apply aw_1
 conv=>whnf
 refine ⟨?_,trivial⟩
|apply zq rfl rfl
 . conv=>lhs;whnf
 . conv=>lhs;whnf
 . first | exact bT1 ‹_› | exact bT2 ‹_›
|apply s_1
 conv=>whnf;arg 1;arg 4;arg 3;whnf
 refine ⟨?_,?_⟩
|apply zAL rfl rfl rfl rfl
 . conv=>lhs;whnf;arg 1;whnf
 . rfl
|apply zr rfl
 . conv=>lhs;whnf
 . conv=>lhs;whnf
 . first | rfl | assumption
|apply zF rfl
 . conv=>lhs;whnf
 . conv=>lhs;whnf
 . conv=>lhs;whnf;arg 2;whnf
|refine zO ?_
|refine zE ?_
|refine ⟨_,by conv=>lhs;whnf;arg 2;whnf,?_⟩;conv=>rhs;whnf
|exact trivial
|intro hg)
   all_goals first
    |rfl
    |skip
 have f00:decide (((d.f 0).l.length:Int)<1)=false:=decide_eq_false (by omega)
 have K1:(decide (((d.f 0).l.length:Int)<1)==false)=false->False:=fun h=>by rw [f00] at h;cases h
 by_cases hbig:64<(d.f 0).l.length
 . have f0:decide (((d.f 0).l.length:Int)>64)=true:=decide_eq_true (by omega)
   rw [show docY litW (d.f 0).l=false by unfold docY;rw [decide_eq_false (by omega)];rfl]
   refine zN 28 Tryz.func15 rfl rfl rfl rfl ?_
   intro s w he
   repeat' (first
|apply zG
 . conv=>lhs;whnf
 . assumption
|exact (K1 ‹_›).elim
|refine zA ?_
|refine zB ?_
|refine zH ?_
|apply aw_1
 conv=>whnf
 refine ⟨?_,trivial⟩
|apply za rfl rfl
 . conv=>lhs;whnf
 . conv=>lhs;whnf
 . first | exact bF1 ‹_› | exact bF2 ‹_›
|apply s_1
 conv=>whnf;arg 1;arg 4;arg 3;whnf
 refine ⟨?_,?_⟩
|apply zAL rfl rfl rfl rfl
 . conv=>lhs;whnf;arg 1;whnf
 . rfl
|apply zL rfl
 . conv=>lhs;whnf
 . conv=>lhs;whnf
 . first | rfl | assumption
 . conv=>lhs;whnf;arg 2;whnf
|apply zF rfl
 . conv=>lhs;whnf
 . conv=>lhs;whnf
 . conv=>lhs;whnf;arg 2;whnf
|refine zO ?_
|refine zE ?_
|refine ⟨_,by conv=>lhs;whnf;arg 2;whnf,?_⟩;conv=>rhs;whnf
|exact trivial
|intro hg)
   all_goals first
    |rfl
    |skip
 have f0:decide (((d.f 0).l.length:Int)>64)=false:=decide_eq_false (by omega)
 have hR:docY litW (d.f 0).l=zAU (defY litW) (d.f 0).l (d.f 0).l.length 0:=by unfold docY;rw [decide_eq_true (by omega),zBA,Bool.true_and]
 generalize docY litW (d.f 0).l=R at hR |-
 refine zN 28 Tryz.func15 rfl rfl rfl rfl ?_
 intro s w he
 repeat' (first
|apply zC
 . conv=>lhs;whnf
 . assumption
|exact (K1 ‹_›).elim
|refine zA ?_
|refine zB ?_
|refine zH ?_
|apply aw_1
 conv=>whnf
 refine ⟨?_,trivial⟩
|apply za rfl rfl
 . conv=>lhs;whnf
 . conv=>lhs;whnf
 . first | exact bF1 ‹_› | exact bF2 ‹_›
|apply s_1
 conv=>whnf;arg 1;arg 4;arg 3;whnf
 refine ⟨?_,?_⟩
|apply zAL rfl rfl rfl rfl
 . conv=>lhs;whnf;arg 1;whnf
 . rfl
|apply zL rfl
 . conv=>lhs;whnf
 . conv=>lhs;whnf
 . first | rfl | assumption
 . conv=>lhs;whnf;arg 2;whnf
|apply zF rfl
 . conv=>lhs;whnf
 . conv=>lhs;whnf
 . conv=>lhs;whnf;arg 2;whnf
|exact trivial
|intro hg)
 refine zi (fun j st => ∃ i,i+j=(d.f 0).l.length/\R=zAU (defY litW) (d.f 0).l j i/\Sub (cx EN Tryz.prog s w he) st (HrFU d i)) (d.f 0).l.length ⟨0,by omega,hR,Sub.live ⟨rfl,rfl,trivial⟩ ⟨rfl,trivial⟩⟩ ?_
 clear hR f0 f00 K1
 rintro j st ⟨i,hij,hR,hs2⟩
 refine zg hs2 ?_
 clear hs2
 by_cases hi:i<(d.f 0).l.length
 . obtain ⟨j,rfl⟩ : ∃ q,j=q+1:=⟨j-1,by omega⟩
   have f1:decide ((i:Int)<((d.f 0).l.length:Nat))=true:=decide_eq_true (by omega)
   have hR':R=(defY litW (gD (d.f 0).l i)&&zAU (defY litW) (d.f 0).l j (i+1)):=hR
   clear hR
   have hd1:=hd i hi
   repeat' (first
|apply zG
 . conv=>lhs;whnf
 . assumption
|refine zA ?_
|refine zB ?_
|refine zH ?_
|refine zR ?_
|apply aw_1
 conv=>whnf
 refine ⟨?_,trivial⟩
|apply s_1
 conv=>whnf;arg 1;arg 4;arg 3;whnf
 refine ⟨?_,?_⟩
|apply ze rfl
 . conv=>lhs;whnf
 . conv=>lhs;whnf
 . first | exact hd1
|refine zZ (by conv=>lhs;whnf) ?_ ?_<;>intro hb
|refine zO ?_
|refine zQ ?_
|refine zy ?_
|refine zE ?_
|refine ⟨_,by conv=>lhs;whnf;arg 2;whnf,?_⟩;conv=>rhs;whnf
|exact trivial)
   all_goals first
    |exact zU (by omega)
    |exact zAI hi
    |(have e:defY litW (gD (d.f 0).l i)=false:=by simpa using (by assumption:(!defY litW (gD (d.f 0).l i))=true)
      rw [hR',e];rfl)
    |(have e:defY litW (gD (d.f 0).l i)=true:=by simpa using (by assumption:(!defY litW (gD (d.f 0).l i))=false)
      exact zI (j':=j) (by omega) ⟨i+1,by omega,by rw [hR',e,Bool.true_and],Sub.live ⟨rfl,rfl,trivial⟩ ⟨rfl,trivial⟩⟩)
    |skip
 . obtain rfl:j=0:=by omega
   have f1:decide ((i:Int)<((d.f 0).l.length:Nat))=false:=decide_eq_false (by omega)
   repeat' (first
|apply zC
 . conv=>lhs;whnf
 . assumption
|refine zA ?_
|refine zB ?_
|refine zH ?_
|apply aw_1
 conv=>whnf
 refine ⟨?_,trivial⟩
|apply s_1
 conv=>whnf;arg 1;arg 4;arg 3;whnf
 refine ⟨?_,?_⟩
|refine zM ?_
|refine zK rfl ?_
|refine zJ ?_
|refine zE ?_
|refine ⟨_,by conv=>lhs;whnf;arg 2;whnf,?_⟩;conv=>rhs;whnf
|exact trivial)
   rw [hR];rfl
end
end Go.Proofs.YthppafnlnnpciaaGreatDoor
