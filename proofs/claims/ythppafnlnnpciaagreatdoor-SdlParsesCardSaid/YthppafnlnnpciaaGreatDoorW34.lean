import Derived.Test.YthppafnlnnpciaaGreatDoorW33
set_option maxHeartbeats 20000000
set_option maxRecDepth 100000
set_option linter.unusedVariables false
set_option linter.unusedSimpArgs false
namespace Go.Proofs.YthppafnlnnpciaaGreatDoor
section
open Go.RowKit
set_option linter.unusedSectionVars false
theorem zFn (a b:Int):IntKind.i64.wrap (IntKind.i64.wrap a+b)=IntKind.i64.wrap (a+b):=by
 simp [IntKind.wrap,IntKind.min,IntKind.max,IntKind.bits,IntKind.signed]
 repeat' split
 all_goals omega
theorem wrap_add_r (a b:Int):IntKind.i64.wrap (a+IntKind.i64.wrap b)=IntKind.i64.wrap (a+b):=by
 rw [Int.add_comm,zFn,Int.add_comm]
theorem zGb (s:ByteArray) (l:List UInt8):(s.toList==(⟨l.toArray⟩:ByteArray).toList)=(s.data.toList==l):=by
 rw [Lib.toList_data,Lib.toList_data]
def sizeW (k:Nat) (d:D):Int:=IntKind.i64.wrap (sizeR k d:Int)
def maxW (f:Nat->Int):Nat->Int
 |0=>0
 |n+1=>if maxW f n<f n then f n else maxW f n
def zED:Nat->D->Int
 |0,_=>1
 |k+1,d=>IntKind.i64.wrap (maxW (fun i=>zED k (gD (d.f 3).l i)) (d.f 3).l.length+1)
def litW (d:D):Bool:=decide (sizeW (bulkD d) d<=4096)&&decide (zED (bulkD d) d<=24)&&everyL (bulkD d) d
theorem wrap_id {n:Int} (h:0<=n/\n<=9223372036854775807):IntKind.i64.wrap n=n:=zEh (k:=.i64) ⟨by simp only [IntKind.min,IntKind.signed,IntKind.bits];omega,by simp only [IntKind.max,IntKind.signed,IntKind.bits];omega⟩
theorem maxW_eq {f:Nat->Int} {g:Nat->Nat} : ∀ {n:Nat},(∀ i,i<n->f i=(g i:Int))->maxW f n=(maxN g n:Int)
 |0,_=>rfl
 |n+1,h=>by
  have e:=maxW_eq (n:=n) fun i hi=>h i (by omega)
  unfold maxW maxN
  rw [e,h n (by omega)]
  exact max_i _ _
theorem maxN_at {g:Nat->Nat} : ∀ {n i:Nat},i<n->g i<=maxN g n
 |n+1,i,h=>by
  unfold maxN
  by_cases e:i=n
  . subst e;omega
  . have:=maxN_at (g:=g) (show i<n by omega);omega
theorem zId : ∀ (k:Nat) (d:D),depthR k d<=24->zED k d=(depthR k d:Int)
 |0,_,_=>rfl
 |k+1,d,h=>by
  unfold depthR at h
  unfold zED depthR
  rw [maxW_eq (g:=fun i=>depthR k (gD (d.f 3).l i)) fun i hi=>zId k _ (by have:=maxN_at (g:=fun i=>depthR k (gD (d.f 3).l i)) hi;omega)]
  rw [wrap_id ⟨by omega,by omega⟩]
  omega
theorem lit_W {d:D} (h:litR d=true):litW d=true:=by
 unfold litR at h
 simp only [Bool.and_eq_true,decide_eq_true_eq] at h
 unfold litW sizeW
 rw [zId _ _ h.1.2,wrap_id ⟨by omega,by omega⟩,h.2,decide_eq_true (by omega),decide_eq_true (by omega)];rfl
attribute [local irreducible] wpList Calls Code.wp AW AWo OpOk seqK zq zu loopK endK AC zf Yld Sub
attribute [local irreducible] ACB ACX ACE absLexG YldG
theorem key1U_ac (x:D):AC EN5 Tryz.prog 250 [.c (.string x.s)] (.c (.bool (!nameB x.s))):=by
 have h:=zEU x.s
 refine zP 6 Tryz.func250 rfl rfl rfl rfl ?_
 intro s w he
 repeat' (first
|refine zA ?_
|refine zB ?_
|refine zF ?_
|apply aw_1
 conv=>whnf
 refine ⟨?_,trivial⟩
|apply s_1
 conv=>whnf;arg 1;arg 4;arg 3;whnf
 refine ⟨?_,?_⟩
|apply zi rfl
 . conv=>lhs;whnf
 . conv=>lhs;whnf
 . first | exact h
|refine zE ?_
|refine ⟨_,by conv=>lhs;whnf;arg 2;whnf,?_⟩;conv=>rhs;whnf
|exact trivial)
theorem twiceU_ac (l:List D):AC EN5 Tryz.prog 251 [.sl 9 l] (.c (.bool (twiceB [] l))):=by
 refine zHX 1 fun hL2 => ?_
 have hl:l.length<=9223372036854775807:=hL2.1
 refine zDm (u:=.bool (twiceB [] l)) fun σ w us hus he => ?_
 obtain ⟨u,rfl,h⟩:=rel_one hus
 rw [rel] at h
 obtain ⟨k,A,c,rfl,h1,h2,h3,h4⟩:=h
 exact ⟨fun s' w'=>rel_b,twiceP A l c w w (Below.refl _ _) ⟨k,h4.sl⟩ hl⟩
noncomputable def HSzW (l:List D) (n:Int) (i:Nat):Vst 19:=stS 19 [(3,.c (.int .i64 n)),(7,.sl 53 l),(8,.c (.int .i64 (l.length:Nat))),(9,.c (.int .i64 (i:Int)))] []
theorem zJy : ∀ (k:Nat) (d:D),Dp k d->AC EN5 Tryz.prog 209 [.agg (cellsV Tryz.prog 12 53 d)] (.c (.int .i64 (sizeW k d)))
 |0,_,h=>h.elim
 |k+1,d,h=>by
  refine zDF 2 (by kernel_rfl) fun hL => ?_
  have hl:(d.f 3).l.length<=9223372036854775807:=(zDx hL).1
  clear hL
  have ih:=fun i (hi:i<(d.f 3).l.length)=>zJy k (gD (d.f 3).l i) (h i hi)
  have hs:sizeW (k+1) d=IntKind.i64.wrap ((1+sumN (fun i=>sizeR k (gD (d.f 3).l i)) (d.f 3).l.length:Nat):Int):=rfl
  refine zP 19 Tryz.func209 rfl rfl rfl rfl ?_
  intro s w he
  repeat' (first
|refine zA ?_
|refine zB ?_
|refine zF ?_
|apply aw_1
 conv=>whnf
 refine ⟨?_,trivial⟩
|apply s_1
 conv=>whnf;arg 1;arg 4;arg 3;whnf
 refine ⟨?_,?_⟩
|apply zAW rfl rfl rfl rfl
 . conv=>lhs;whnf;arg 1;whnf
 . rfl
|exact trivial)
  refine zn (fun j st => ∃ i,i+j=(d.f 3).l.length/\Sub (cx EN5 Tryz.prog s w he) st (HSzW (d.f 3).l (IntKind.i64.wrap ((1+sumN (fun i=>sizeR k (gD (d.f 3).l i)) i:Nat):Int)) i)) (d.f 3).l.length ⟨0,by omega,Sub.live ⟨rfl,rfl,rfl,rfl,trivial⟩ trivial⟩ ?_
  rintro j st ⟨i,hij,hs2⟩
  refine zg hs2 ?_
  clear hs2
  by_cases hi:i<(d.f 3).l.length
  . have f0:decide ((i:Int)<((d.f 3).l.length:Nat))=true:=decide_eq_true (by omega)
    have ih2:=ih i hi
    have hss:sumN (fun i=>sizeR k (gD (d.f 3).l i)) (i+1)=sumN (fun i=>sizeR k (gD (d.f 3).l i)) i+sizeR k (gD (d.f 3).l i):=rfl
    repeat' (first
|apply s_addW (y:=.tmp _) rfl rfl rfl
 . conv=>lhs;whnf
 . conv=>lhs;whnf
|apply zG
 . conv=>lhs;whnf
 . assumption
|refine zA ?_
|refine zB ?_
|refine zF ?_
|refine zZ ?_
|apply aw_1
 conv=>whnf
 refine ⟨?_,trivial⟩
|apply s_1
 conv=>whnf;arg 1;arg 4;arg 3;whnf
 refine ⟨?_,?_⟩
|apply zi rfl
 . conv=>lhs;whnf
 . conv=>lhs;whnf
 . first | exact ih2
|apply zI rfl rfl rfl
 . conv=>lhs;whnf
 . conv=>lhs;whnf;arg 1;whnf
 . conv=>lhs;whnf;arg 1;whnf
 . exact ⟨by kernel_rfl,by kernel_rfl⟩
 . rfl
|exact trivial)
    . refine zJ (j':=j-1) (by omega) ⟨i+1,by omega,Sub.live ⟨?_,rfl,rfl,rfl,trivial⟩ trivial⟩
      refine congrArg (fun n=>V.c (.int .i64 n)) (?_:IntKind.i64.wrap (IntKind.i64.wrap ((1+sumN (fun i=>sizeR k (gD (d.f 3).l i)) i:Nat):Int)+sizeW k (gD (d.f 3).l i))=IntKind.i64.wrap ((1+sumN (fun i=>sizeR k (gD (d.f 3).l i)) (i+1):Nat):Int))
      rw [zFn,hss]
      unfold sizeW
      rw [wrap_add_r]
      congr 1
      omega
    all_goals first
     |exact zU (by omega)
     |exact ⟨by omega,by omega⟩
  . have f0:decide ((i:Int)<((d.f 3).l.length:Nat))=false:=decide_eq_false (by omega)
    repeat' (first
|apply zD
 . conv=>lhs;whnf
 . assumption
|refine zA ?_
|refine zB ?_
|refine zF ?_
|apply aw_1
 conv=>whnf
 refine ⟨?_,trivial⟩
|apply s_1
 conv=>whnf;arg 1;arg 4;arg 3;whnf
 refine ⟨?_,?_⟩
|refine zO ?_
|refine zL rfl ?_
|refine zM ?_
|refine zE ?_
|refine ⟨_,by conv=>lhs;whnf;arg 2;whnf,?_⟩;conv=>rhs;whnf
|exact trivial)
    rw [hs,show i=(d.f 3).l.length by omega]
noncomputable def HDpW (l:List D) (n:Int) (i:Nat):Vst 20:=stS 20 [(3,.c (.int .i64 n)),(7,.sl 53 l),(8,.c (.int .i64 (l.length:Nat))),(9,.c (.int .i64 (i:Int)))] []
theorem zIe : ∀ (k:Nat) (d:D),Dp k d->AC EN5 Tryz.prog 210 [.agg (cellsV Tryz.prog 12 53 d)] (.c (.int .i64 (zED k d)))
 |0,_,h=>h.elim
 |k+1,d,h=>by
  refine zDF 2 (by kernel_rfl) fun hL => ?_
  have hl:(d.f 3).l.length<=9223372036854775807:=(zDx hL).1
  clear hL
  have ih:=fun i (hi:i<(d.f 3).l.length)=>zIe k (gD (d.f 3).l i) (h i hi)
  have hs:zED (k+1) d=IntKind.i64.wrap (maxW (fun i=>zED k (gD (d.f 3).l i)) (d.f 3).l.length+1):=rfl
  refine zP 20 Tryz.func210 rfl rfl rfl rfl ?_
  intro s w he
  repeat' (first
|refine zA ?_
|refine zB ?_
|refine zF ?_
|apply aw_1
 conv=>whnf
 refine ⟨?_,trivial⟩
|apply s_1
 conv=>whnf;arg 1;arg 4;arg 3;whnf
 refine ⟨?_,?_⟩
|apply zAW rfl rfl rfl rfl
 . conv=>lhs;whnf;arg 1;whnf
 . rfl
|exact trivial)
  refine zn (fun j st => ∃ i,i+j=(d.f 3).l.length/\Sub (cx EN5 Tryz.prog s w he) st (HDpW (d.f 3).l (maxW (fun i=>zED k (gD (d.f 3).l i)) i) i)) (d.f 3).l.length ⟨0,by omega,Sub.live ⟨rfl,rfl,rfl,rfl,trivial⟩ trivial⟩ ?_
  rintro j st ⟨i,hij,hs2⟩
  refine zg hs2 ?_
  clear hs2
  by_cases hi:i<(d.f 3).l.length
  . have f0:decide ((i:Int)<((d.f 3).l.length:Nat))=true:=decide_eq_true (by omega)
    have ih2:=ih i hi
    repeat' (first
|apply s_max rfl rfl rfl
 . conv=>lhs;whnf;arg 1;whnf
 . conv=>lhs;whnf;arg 1;whnf
|apply zG
 . conv=>lhs;whnf
 . assumption
|refine zA ?_
|refine zB ?_
|refine zF ?_
|refine zZ ?_
|apply aw_1
 conv=>whnf
 refine ⟨?_,trivial⟩
|apply s_1
 conv=>whnf;arg 1;arg 4;arg 3;whnf
 refine ⟨?_,?_⟩
|apply zi rfl
 . conv=>lhs;whnf
 . conv=>lhs;whnf
 . first | exact ih2
|apply zI rfl rfl rfl
 . conv=>lhs;whnf
 . conv=>lhs;whnf;arg 1;whnf
 . conv=>lhs;whnf;arg 1;whnf
 . exact ⟨by kernel_rfl,by kernel_rfl⟩
 . rfl
|exact trivial)
    all_goals first
     |exact zU (by omega)
     |exact ⟨by omega,by omega⟩
     |exact zJ (j':=j-1) (by omega) ⟨i+1,by omega,Sub.live ⟨rfl,rfl,rfl,rfl,trivial⟩ trivial⟩
  . have f0:decide ((i:Int)<((d.f 3).l.length:Nat))=false:=decide_eq_false (by omega)
    have e:i=(d.f 3).l.length:=by omega
    subst e
    repeat' (first
|apply s_addW rfl rfl rfl
 . conv=>lhs;whnf
 . conv=>lhs;whnf
|apply zD
 . conv=>lhs;whnf
 . assumption
|refine zA ?_
|refine zB ?_
|refine zF ?_
|apply aw_1
 conv=>whnf
 refine ⟨?_,trivial⟩
|apply s_1
 conv=>whnf;arg 1;arg 4;arg 3;whnf
 refine ⟨?_,?_⟩
|refine zO ?_
|refine zL rfl ?_
|refine zM ?_
|refine zE ?_
|refine ⟨_,by conv=>lhs;whnf;arg 2;whnf,?_⟩;conv=>rhs;whnf
|exact trivial)
    rfl
end
section
open Go.RowKit
set_option linter.unusedSectionVars false
attribute [local irreducible] wpList Calls Code.wp AW AWo OpOk seqK zq zu loopK endK AC zf Yld Sub
attribute [local irreducible] ACB ACX ACE absLexG YldG
theorem nodeU_ac (d:D):AC EN5 Tryz.prog 234 [.agg (cellsV Tryz.prog 12 53 d),.c (.bool true)] (.c (.bool (nodeL d))):=by
 refine zDF 2 (by kernel_rfl) fun hL => ?_
 have hk:(d.f 4).l.length<=9223372036854775807:=(zDx hL).2
 clear hL
 have c1:=zEU (d.f 2).s
 have c2:=twiceU_ac (d.f 4).l
 rw [twice_strs] at c2
 have c3:=zFl (d.f 4).l (fun x => !nameB x.s) hk fun i hi=>key1U_ac _
 have e:cellsV Tryz.prog 12 53 d=[.c (.int .i64 (d.f 0).n),.c (.int .i64 (d.f 1).n),.c (.string (d.f 2).s),.sl 53 (d.f 3).l,.sl 9 (d.f 4).l]:=rfl
 have hT:((d.f 2).s.toList==({ data:=#[] }:ByteArray).toList)=((d.f 2).s.data.toList==[]):=zGb _ []
 have hT1:((d.f 2).s.toList==({ data:=#[116,114,117,101] }:ByteArray).toList)=((d.f 2).s.data.toList==[116,114,117,101]):=zGb _ _
 have hT2:((d.f 2).s.toList==({ data:=#[102,97,108,115,101] }:ByteArray).toList)=((d.f 2).s.data.toList==[102,97,108,115,101]):=zGb _ _
 have hT3:((d.f 2).s.toList==({ data:=#[110,117,108,108] }:ByteArray).toList)=((d.f 2).s.data.toList==[110,117,108,108]):=zGb _ _
 unfold nodeL
 rw [e]
 by_cases h8:0<=(d.f 0).n/\(d.f 0).n<=7
 . have h9:(d.f 0).n=0\/(d.f 0).n=1\/(d.f 0).n=2\/(d.f 0).n=3\/(d.f 0).n=4\/(d.f 0).n=5\/(d.f 0).n=6\/(d.f 0).n=7:=by omega
   rcases h9 with hn | hn | hn | hn | hn | hn | hn | hn
   all_goals
    rw [hn]
    refine zP 137 Tryz.func234 rfl rfl rfl rfl ?_
    intro s w he
    repeat' (first
|apply zz rfl rfl rfl
 . conv=>lhs;whnf
 . first | rfl | assumption
 . conv=>lhs;whnf
 . first | exact bT1 ‹_› | exact bT2 ‹_› | rfl
|apply zv rfl rfl rfl
 . conv=>lhs;whnf
 . first | rfl | assumption
 . conv=>lhs;whnf
 . first | exact bF1 ‹_› | exact bF2 ‹_› | rfl
|refine zA ?_
|refine zB ?_
|refine zF ?_
|apply aw_1
 conv=>whnf
 refine ⟨?_,trivial⟩
|apply zX rfl rfl
 . conv=>lhs;whnf
 . conv=>lhs;whnf
 . first | exact bT1 ‹_› | exact bT2 ‹_›
|apply zT rfl rfl
 . conv=>lhs;whnf
 . conv=>lhs;whnf
 . first | exact bF1 ‹_› | exact bF2 ‹_›
|apply s_1
 conv=>whnf;arg 1;arg 4;arg 3;whnf
 refine ⟨?_,?_⟩
|apply zi rfl
 . conv=>lhs;whnf
 . conv=>lhs;whnf
 . first | exact c1 | exact c2 | exact c3
|apply zAW rfl rfl rfl rfl
 . conv=>lhs;whnf;arg 1;whnf
 . rfl
|apply zC rfl
 . conv=>lhs;whnf
 . conv=>lhs;whnf
 . first | rfl | assumption
 . conv=>lhs;whnf;arg 2;whnf
|apply zh rfl
 . conv=>lhs;whnf
 . conv=>lhs;whnf
 . first | rfl | assumption
 . conv=>lhs;whnf
 . first | exact c1 | exact c2 | exact c3
|apply zW rfl
 . conv=>lhs;whnf
 . conv=>lhs;whnf
 . first | rfl | assumption
|apply zH rfl
 . conv=>lhs;whnf
 . conv=>lhs;whnf
 . conv=>lhs;whnf;arg 2;whnf
|refine ze (by conv=>lhs;whnf) ?_ ?_<;>intro hb
|refine zQ ?_
|refine zV ?_
|refine zE ?_
|refine ⟨_,by conv=>lhs;whnf;arg 2;whnf,?_⟩;conv=>rhs;whnf
|exact trivial
|intro hg)
    all_goals
     clear c1 c2 c3 he e hk
     simp only [hT,hT1,hT2,hT3] at *
     clear hT hT1 hT2 hT3
     unfold zJU
     generalize ((d.f 2).s.data.toList==[])=t at *
     generalize ((d.f 2).s.data.toList==[116,114,117,101])=t1 at *
     generalize ((d.f 2).s.data.toList==[102,97,108,115,101])=t2 at *
     generalize ((d.f 2).s.data.toList==[110,117,108,108])=t3 at *
     generalize nameB (d.f 2).s=v at *
     generalize ((d.f 4).l.any fun x => !nameB x.s)=ks at *
     generalize decide (strsR d).Nodup=y at *
     generalize (d.f 4).l.length=a at *
     generalize (d.f 3).l.length=b at *
     generalize (d.f 1).n=i at *
     refine congrArg (fun b=>V.c (.bool b)) ?_
     unfold nodeK
     simp_all
    all_goals try (intros;omega)
 . have q1:((d.f 0).n==1)=false:=by simp;omega
   have q2:((d.f 0).n==2)=false:=by simp;omega
   have q3:((d.f 0).n==3)=false:=by simp;omega
   have q4:((d.f 0).n==4)=false:=by simp;omega
   have q5:((d.f 0).n==5)=false:=by simp;omega
   have q0:((d.f 0).n==0)=false:=by simp;omega
   have q6:((d.f 0).n==6)=false:=by simp;omega
   have q7:((d.f 0).n==7)=false:=by simp;omega
   have g1:(((d.f 0).n==1)==false)=true:=by rw [q1];rfl
   have g2:(((d.f 0).n==2)==false)=true:=by rw [q2];rfl
   have g3:(((d.f 0).n==3)==false)=true:=by rw [q3];rfl
   have g4:(((d.f 0).n==4)==false)=true:=by rw [q4];rfl
   have g7:(((d.f 0).n==7)==false)=true:=by rw [q7];rfl
   have m5:((d.f 0).n != 5)=true:=by simp;omega
   have n5:(((d.f 0).n != 5)==true)=true:=by rw [m5];rfl
   have m6:((d.f 0).n != 6)=true:=by simp;omega
   have n6:(((d.f 0).n != 6)==true)=true:=by rw [m6];rfl
   refine zP 137 Tryz.func234 rfl rfl rfl rfl ?_
   intro s w he
   repeat' (first
|apply zz rfl rfl rfl
 . conv=>lhs;whnf
 . first | rfl | assumption
 . conv=>lhs;whnf
 . first | exact bT1 ‹_› | exact bT2 ‹_› | rfl
|apply zv rfl rfl rfl
 . conv=>lhs;whnf
 . first | rfl | assumption
 . conv=>lhs;whnf
 . first | exact bF1 ‹_› | exact bF2 ‹_› | rfl
|apply zD
 . conv=>lhs;whnf
 . assumption
|refine zA ?_
|refine zB ?_
|refine zF ?_
|refine zZ ?_
|apply aw_1
 conv=>whnf
 refine ⟨?_,trivial⟩
|apply zX rfl rfl
 . conv=>lhs;whnf
 . conv=>lhs;whnf
 . first | exact bT1 ‹_› | exact bT2 ‹_›
|apply zT rfl rfl
 . conv=>lhs;whnf
 . conv=>lhs;whnf
 . first | exact bF1 ‹_› | exact bF2 ‹_›
|apply s_1
 conv=>whnf;arg 1;arg 4;arg 3;whnf
 refine ⟨?_,?_⟩
|apply zAW rfl rfl rfl rfl
 . conv=>lhs;whnf;arg 1;whnf
 . rfl
|apply zC rfl
 . conv=>lhs;whnf
 . conv=>lhs;whnf
 . first | rfl | assumption
 . conv=>lhs;whnf;arg 2;whnf
|apply zW rfl
 . conv=>lhs;whnf
 . conv=>lhs;whnf
 . first | rfl | assumption
|apply zH rfl
 . conv=>lhs;whnf
 . conv=>lhs;whnf
 . conv=>lhs;whnf;arg 2;whnf
|refine ze (by conv=>lhs;whnf) ?_ ?_<;>intro hb
|refine zQ ?_
|refine zE ?_
|refine ⟨_,by conv=>lhs;whnf;arg 2;whnf,?_⟩;conv=>rhs;whnf
|exact trivial
|intro hg)
   all_goals
    clear c1 c2 c3 he e hk
    simp only [hT,hT1,hT2,hT3] at *
    clear hT hT1 hT2 hT3
    unfold zJU
    generalize ((d.f 2).s.data.toList==[])=t at *
    generalize ((d.f 2).s.data.toList==[116,114,117,101])=t1 at *
    generalize ((d.f 2).s.data.toList==[102,97,108,115,101])=t2 at *
    generalize ((d.f 2).s.data.toList==[110,117,108,108])=t3 at *
    generalize nameB (d.f 2).s=v at *
    generalize ((d.f 4).l.any fun x => !nameB x.s)=ks at *
    generalize decide (strsR d).Nodup=y at *
    generalize (d.f 4).l.length=a at *
    generalize (d.f 3).l.length=b at *
    generalize (d.f 1).n=i at *
    generalize (d.f 0).n=n at *
    refine congrArg (fun b=>V.c (.bool b)) ?_
    unfold nodeK
    simp_all
   all_goals try (intros;omega)
theorem zJS (x:D) (b:Bool) (h:AC EN5 Tryz.prog 211 [.agg (cellsV Tryz.prog 12 53 x),.c (.bool true)] (.c (.bool b))) :
 ACB EN5 Tryz.prog 236 [.agg (cellsV Tryz.prog 12 53 x),.bx (pn 0) 0] [.box 4 [.c (.bool true)]] (.c (.bool (!b))) [.box 4 [.c (.bool true)]]:=by
 refine zb (fn:=Tryz.f236) 8 Tryz.func236 rfl rfl ?_
 intro pas w0 w he hpp
 repeat' (first
|refine zA ?_
|refine zB ?_
|refine zF ?_
|apply aw_1
 conv=>whnf
 refine ⟨?_,trivial⟩
|apply s_1
 conv=>whnf;arg 1;arg 4;arg 3;whnf
 refine ⟨?_,?_⟩
|apply zi rfl
 . conv=>lhs;whnf
 . conv=>lhs;whnf
 . first | exact h
|apply zAW rfl rfl rfl rfl
 . conv=>lhs;whnf;arg 1;whnf
 . rfl
|refine zx ⟨?_,?_⟩
|refine ⟨_,by conv=>lhs;whnf;arg 2;whnf,?_⟩;conv=>rhs;whnf
|exact trivial)
 exact ⟨rfl,trivial⟩
theorem zIW : ∀ (k:Nat) (d:D),Dp k d->AC EN5 Tryz.prog 211 [.agg (cellsV Tryz.prog 12 53 d),.c (.bool true)] (.c (.bool (everyL k d)))
 |0,_,h=>h.elim
 |k+1,d,h=>by
  refine zDF 2 (by kernel_rfl) fun hL => ?_
  have hl:(d.f 3).l.length<=9223372036854775807:=(zDx hL).1
  clear hL
  have hnode:=nodeU_ac d
  have hc:=zD3 true (d.f 3).l (fun x => !everyL k x) hl fun i hi=>zJS _ _ (zIW k _ (h i hi))
  have e:everyL (k+1) d=(nodeL d && !((d.f 3).l.any fun x => !everyL k x)):=rfl
  rw [e]
  refine zP 15 Tryz.func211 rfl rfl rfl rfl ?_
  intro s w he
  repeat' (first
|apply zD9 (m:=3) rfl
 . conv=>lhs;whnf
 . conv=>lhs;whnf
 . conv=>lhs;whnf
 . rfl
 . conv=>lhs;whnf;arg 1;whnf
 . exact fun _=>rfl
 . first | exact hc
 . exact fun _=>rfl
 . exact fun _=>rfl
 . exact fun _=>rfl
|refine zA ?_
|refine zB ?_
|refine zF ?_
|apply aw_1
 conv=>whnf
 refine ⟨?_,trivial⟩
|apply zX rfl rfl
 . conv=>lhs;whnf
 . conv=>lhs;whnf
 . first | exact bT1 ‹_› | exact bT2 ‹_›
|apply zT rfl rfl
 . conv=>lhs;whnf
 . conv=>lhs;whnf
 . first | exact bF1 ‹_› | exact bF2 ‹_›
|apply s_1
 conv=>whnf;arg 1;arg 4;arg 3;whnf
 refine ⟨?_,?_⟩
|apply zi rfl
 . conv=>lhs;whnf
 . conv=>lhs;whnf
 . first | exact hnode
|apply zAW rfl rfl rfl rfl
 . conv=>lhs;whnf;arg 1;whnf
 . rfl
|apply zC rfl
 . conv=>lhs;whnf
 . conv=>lhs;whnf
 . first | rfl | assumption
 . conv=>lhs;whnf;arg 2;whnf
|apply zW rfl
 . conv=>lhs;whnf
 . conv=>lhs;whnf
 . first | rfl | assumption
|apply zH rfl
 . conv=>lhs;whnf
 . conv=>lhs;whnf
 . conv=>lhs;whnf;arg 2;whnf
|refine zE ?_
|refine ⟨_,by conv=>lhs;whnf;arg 2;whnf,?_⟩;conv=>rhs;whnf
|exact trivial
|intro hg)
  all_goals
   clear hnode hc he e
   generalize nodeL d=b at *
   generalize ((d.f 3).l.any fun x => !everyL k x)=c at *
   cases b
   . first
      |rfl
      |(exfalso;simp at *)
   . first
      |rfl
      |(exfalso;simp at *)
theorem litU_ac (d:D):AC EN5 Tryz.prog 182 [.agg (cellsV Tryz.prog 12 53 d)] (.c (.bool (litW d))):=by
 have h:=zCn (bulkD d) d (Nat.le_refl _)
 have h1:=zJy _ d h
 have h2:=zIe _ d h
 have h3:=zIW _ d h
 unfold litW
 refine zP 15 Tryz.func182 rfl rfl rfl rfl ?_
 intro s w he
 repeat' (first
|refine zA ?_
|refine zB ?_
|refine zF ?_
|apply aw_1
 conv=>whnf
 refine ⟨?_,trivial⟩
|apply zX rfl rfl
 . conv=>lhs;whnf
 . conv=>lhs;whnf
 . first | exact bT1 ‹_› | exact bT2 ‹_›
|apply zT rfl rfl
 . conv=>lhs;whnf
 . conv=>lhs;whnf
 . first | exact bF1 ‹_› | exact bF2 ‹_›
|apply s_1
 conv=>whnf;arg 1;arg 4;arg 3;whnf
 refine ⟨?_,?_⟩
|apply zi rfl
 . conv=>lhs;whnf
 . conv=>lhs;whnf
 . first | exact h1 | exact h2 | exact h3
|apply zAW rfl rfl rfl rfl
 . conv=>lhs;whnf;arg 1;whnf
 . rfl
|apply zC rfl
 . conv=>lhs;whnf
 . conv=>lhs;whnf
 . first | rfl | assumption
 . conv=>lhs;whnf;arg 2;whnf
|apply zh rfl
 . conv=>lhs;whnf
 . conv=>lhs;whnf
 . first | rfl | assumption
 . conv=>lhs;whnf
 . first | exact h1 | exact h2 | exact h3
|apply zW rfl
 . conv=>lhs;whnf
 . conv=>lhs;whnf
 . first | rfl | assumption
|apply zH rfl
 . conv=>lhs;whnf
 . conv=>lhs;whnf
 . conv=>lhs;whnf;arg 2;whnf
|refine zE ?_
|refine ⟨_,by conv=>lhs;whnf;arg 2;whnf,?_⟩;conv=>rhs;whnf
|exact trivial
|intro hg)
 all_goals
  clear h1 h2 h3 he
  refine congrArg (fun b=>V.c (.bool b)) ?_
  simp_all
  try (intros;omega)
end
section
open Go.RowKit
set_option linter.unusedSectionVars false
section
variable {lit lit':D->Bool} (h : ∀ v,lit v=true->lit' v=true)
theorem zC9 {p q:D->Bool} (h : ∀ x,p x=true->q x=true) {l:List D} (hl:l.all p=true):l.all q=true:=by
 rw [List.all_eq_true] at hl |-
 exact fun x hx=>h x (hl x hx)
include h
theorem zHd (v:D) (hv:valY lit v=true):valY lit' v=true:=by
 unfold valY at *
 rw [Bool.and_eq_true] at *
 exact ⟨h v hv.1,hv.2⟩
theorem argY_mono (v:D) (hv:argY lit v=true):argY lit' v=true:=by
 unfold argY at *
 rw [Bool.and_eq_true] at *
 exact ⟨hv.1,zHd h _ hv.2⟩
theorem dirY_mono (v:D) (hv:dirY lit v=true):dirY lit' v=true:=by
 unfold dirY zIp at *
 simp only [Bool.and_eq_true] at *
 exact ⟨hv.1,hv.2.1,zC9 (argY_mono h) hv.2.2⟩
theorem zC6 {l:List D} (hv:dirsY lit l=true):dirsY lit' l=true:=by
 unfold dirsY at *
 rw [Bool.and_eq_true] at *
 exact ⟨hv.1,zC9 (dirY_mono h) hv.2⟩
theorem inY_mono (v:D) (hv:inY lit v=true):inY lit' v=true:=by
 unfold inY at *
 simp only [Bool.and_eq_true] at *
 exact ⟨⟨⟨hv.1.1.1,zC6 h hv.1.1.2⟩,zHd h _ hv.1.2⟩,hv.2⟩
theorem zII {l:List D} (hv:insY lit l=true):insY lit' l=true:=by
 unfold insY at *
 rw [Bool.and_eq_true] at *
 exact ⟨hv.1,zC9 (inY_mono h) hv.2⟩
theorem fdY_mono (v:D) (hv:fdY lit v=true):fdY lit' v=true:=by
 unfold fdY at *
 simp only [Bool.and_eq_true] at *
 exact ⟨⟨⟨hv.1.1.1,zII h hv.1.1.2⟩,hv.1.2⟩,zC6 h hv.2⟩
theorem mbY_mono (u:Bool) (v:D) (hv:mbY lit u v=true):mbY lit' u v=true:=by
 unfold mbY at *
 rw [Bool.and_eq_true,Bool.and_eq_true] at *
 exact ⟨⟨hv.1.1,zC6 h hv.1.2⟩,hv.2⟩
theorem defY_mono (v:D) (hv:defY lit v=true):defY lit' v=true:=by
 unfold defY fdsY mbsY at *
 simp only [Bool.and_eq_true] at *
 exact ⟨⟨⟨⟨⟨⟨hv.1.1.1.1.1.1,hv.1.1.1.1.1.2⟩,zC6 h hv.1.1.1.1.2⟩,hv.1.1.1.2⟩,⟨hv.1.1.2.1,zC9 (fdY_mono h) hv.1.1.2.2⟩⟩,⟨hv.1.2.1,zC9 (mbY_mono h _) hv.1.2.2⟩⟩,zII h hv.2⟩
theorem docY_mono {l:List D} (hv:docY lit l=true):docY lit' l=true:=by
 unfold docY at *
 rw [Bool.and_eq_true] at *
 exact ⟨hv.1,zC9 (defY_mono h) hv.2⟩
end
theorem parseD_ok {s:List UInt8} {q:D} (h:parseD s = .ok q) : ∃ ds,q=zDL ds/\docY litW ds=true/\1<=ds.length/\ds.length<=64:=by
 obtain ⟨ds,h1,h2⟩:=zH0 h
 refine ⟨ds,h1,docY_mono (fun v=>lit_W) h2,?_⟩
 unfold docY at h2
 simp only [Bool.and_eq_true,decide_eq_true_eq] at h2
 exact h2.1
theorem exS_right:docY litW (exS.f 0).l=true:=by
 obtain ⟨ds,h1,h2,-⟩:=parseD_ok zIV
 rw [h1];exact h2
attribute [local irreducible] wpList Calls Code.wp
theorem zI5 (d:D):AC EN5 Tryz.prog 14 [.agg (cellsV Tryz.prog 12 25 d)] (.c (.bool (docY litW (d.f 0).l))):=zHo zEU litU_ac zHw d
theorem ex6_ac:AC EN5 Tryz.prog 9 [] (.c (.bool true)):=example_ac zI5 exS_right
end
section
open Go.RowKit
set_option linter.unusedSectionVars false
attribute [local irreducible] wpList Calls Code.wp AW AWo OpOk seqK zq zu loopK endK AC zf Yld Sub
attribute [local irreducible] ACB ACX ACE absLexG YldG absLexH
theorem parse6F_ac (s:List UInt8):AC EN5 Tryz.prog 11 [.c (.string (bs s))] (.tup [.agg [.sl 45 (dfs6 (parseD s))],.c (.int .i64 (at6 (parseD s):Int)),.c (.int .i64 (er6 (parseD s)))]):=by
 refine (parseS_ac s).res ?_
 cases parseD s with
 |ok q=>exact .refl _
 |error x=>exact .tup (.cons (.agg (.cons (.nil _) .nil)) (.cons (.refl _) (.cons (.refl _) .nil)))
theorem parses6_ac (s:List UInt8):AC EN5 Tryz.prog 3 [.c (.string (bs s))] (.c (.bool true)):=by
 have hz:=zk s
 have hEx:=ex6_ac
 by_cases hb:9000<s.length
 . have f0:decide (((bs s).size:Int)>9000)=true:=decide_eq_true (by omega)
   refine zP 41 Tryz.func3 rfl rfl rfl rfl ?_
   intro σ w he
   repeat' (first
|apply zG
 . conv=>lhs;whnf
 . assumption
|refine zA ?_
|refine zB ?_
|refine zF ?_
|apply aw_1
 conv=>whnf
 refine ⟨?_,trivial⟩
|apply s_1
 conv=>whnf;arg 1;arg 4;arg 3;whnf
 refine ⟨?_,?_⟩
|apply zi rfl
 . conv=>lhs;whnf
 . conv=>lhs;whnf
 . first | exact hEx
|refine zQ ?_
|refine zE ?_
|refine ⟨_,by conv=>lhs;whnf;arg 2;whnf,?_⟩;conv=>rhs;whnf
|exact trivial)
   all_goals exact zGJ
 . have f0:decide (((bs s).size:Int)>9000)=false:=decide_eq_false (by omega)
   have h2:=parse6_ac s (by omega)
   have h3:=parse6F_ac s
   have h4:=equalE_ac (zDL (dfs6 (parseD s)))
   generalize dfs6 (parseD s)=x1 at *
   generalize at6 (parseD s)=x3 at *
   generalize er6 (parseD s)=x4 at *
   have K1:(((x3:Int)==(x3:Int))==true)=false->False:=fun h=>by simp at h
   have K2:((x3:Int)==(x3:Int))=false->False:=fun h=>by simp at h
   have K3:((x4==x4)==true)=false->False:=fun h=>by simp at h
   have K4:(x4==x4)=false->False:=fun h=>by simp at h
   refine zP 41 Tryz.func3 rfl rfl rfl rfl ?_
   intro σ w he
   repeat' (first
|apply zD
 . conv=>lhs;whnf
 . assumption
|exact (K1 ‹_›).elim
|exact (K3 ‹_›).elim
|refine zA ?_
|refine zB ?_
|refine zF ?_
|apply aw_1
 conv=>whnf
 refine ⟨?_,trivial⟩
|apply zX rfl rfl
 . conv=>lhs;whnf
 . conv=>lhs;whnf
 . first | exact bT1 ‹_› | exact bT2 ‹_›
|apply s_1
 conv=>whnf;arg 1;arg 4;arg 3;whnf
 refine ⟨?_,?_⟩
|apply zi rfl
 . conv=>lhs;whnf
 . conv=>lhs;whnf
 . first | exact hEx | exact h2 | exact h3 | exact h4
|apply zI rfl rfl rfl
 . conv=>lhs;whnf
 . conv=>lhs;whnf;arg 1;whnf
 . conv=>lhs;whnf;arg 1;whnf
 . exact ⟨by kernel_rfl,by kernel_rfl⟩
 . rfl
|apply zC rfl
 . conv=>lhs;whnf
 . conv=>lhs;whnf
 . first | rfl | assumption
 . conv=>lhs;whnf;arg 2;whnf
|apply zH rfl
 . conv=>lhs;whnf
 . conv=>lhs;whnf
 . conv=>lhs;whnf;arg 2;whnf
|apply zGk rfl
 . conv=>lhs;whnf
 . conv=>lhs;whnf
 . conv=>lhs;whnf
 . first | exact hEx | exact h2 | exact h3 | exact h4
|refine zE ?_
|refine ⟨_,by conv=>lhs;whnf;arg 2;whnf,?_⟩;conv=>rhs;whnf
|exact trivial
|intro hg)
   all_goals first
    |exact zGJ
    |rfl
    |skip
theorem rowParses6 {W:World} (s:ByteArray) (hs:s.size<=140737488351232) (he:Env W):Calls Tryz.prog 3 #[.string s] W fun e W'=>e = .returned (.bool true)/\Below W.heap.size W W':=by
 have h:=parses6_ac (tx s)
 rw [bs_tx] at h
 exact zIk h (relL1 (rel_str (by unfold maxLen;omega))) he
end
section
open Go.ChangeShapes Go.WideShapes Go.ChangeAt Go.RowKit
attribute [local irreducible] wpList Calls Code.wp
theorem zD2 (H:Type) (enc:TypeId × Value->H) (W:World) (base:Nat) (args:Array Value) (ds gs:List (DataW H)) (before:List MemPlace)
 (hval : ∀ (j:Nat) t v,Tryz.f3.params[j]? = some t->args[j]? = some v->Value.okWide Tryz.prog W .any base t v)
 (hW:DataW.Whole enc Tryz.prog Tryz.f3.params.toList Rows.sdlParsesSpec.vars false W args.toList ds gs before) (hL:laidMetH Tryz.prog Rows.sdlParsesRow.laid W)
 (hR:(DataW.weightsEach Tryz.prog (Tryz.f3.params.toList++(OpenSpec.ofChange Rows.sdlParsesSpec).bare.plain.varTypes Tryz.prog) (ds++gs)).all (· <= reachBytes)=true) :
 Calls Tryz.prog 3 args W fun e W' => ∃ v,e = .returned v/\Rows.sdlParsesSpec.post enc Tryz.prog Tryz.f3 false true false false W args v W':=by
 have hW':=hW
 obtain ⟨p,q,hA0,hV,rfl,hfz,hnd⟩:=hW
 have hA:DataW.TrodAll enc Tryz.prog W 0 (fun _=>true) true Tryz.f3.params.toList args.toList ds p:=hA0
 rw [Tryz.params3] at hA hval hR
 obtain ⟨v0,vs0,d0,ds0,p0,q0,hargs,rfl,rfl,h0,r0⟩:=trodAll_cons hA
 obtain ⟨rfl,rfl,rfl⟩:=trodAll_nil r0
 obtain rfl:args = #[v0]:=by cases args;simp_all
 have hv0:=hval 0 9 v0 rfl rfl
 obtain ⟨s0,rfl,rfl,_,hm0⟩:=Go.ChangeMaps.open_string (r:=.any) (b0:=base) (t:=9) (w:=W) Tryz.underlying9 hv0 h0
 have hs0:s0.size<=140737488351232:=reach_size hR (zIu)
 refine (rowParses6 s0 hs0 (zJT hL)).mono fun e W' ⟨he,hbel⟩ => ?_
 subst he
 exact ⟨_,rfl,post_true laidOut' (types_ok _ (by kernel_rfl)) Tryz.underlying4 rfl rfl hW' hbel (fun gs h=>by subst h;rfl)⟩
theorem laid_metSdlParses (os:Os):laidMet Tryz.prog Rows.sdlParsesRow.laid ((laidWorld os).forCall (fun _ _=>0) ⟨#[],#[.string ⟨#[]⟩],[]⟩).memory:=
 laidMet_of_run' 8 (by kernel_rfl) (by kernel_rfl)
theorem zFg (os:Os) {H:Type} (enc:TypeId × Value->H) : ∃ places,DataW.whole enc Tryz.prog ((laidWorld os).forCall (fun _ _=>0) ⟨#[],#[.string ⟨#[]⟩],[]⟩).memory Tryz.f3.params.toList Rows.sdlParsesSpec.vars false (#[.string ⟨#[]⟩]:Array Value).toList 8=some ([.lit (.string [])],[],places):=
 ⟨[],by kernel_rfl⟩
theorem zE8 (os:Os) (started:os.Started) (H:Type) (enc:TypeId × Value->H) (F:Stop.Interp) :
 ReturnsInHanded {} Tryz.checked os 3 .any ((OpenSpec.ofChange Rows.sdlParsesSpec).preRow enc Tryz.prog Tryz.f3 Rows.sdlParsesRow.domain false Rows.sdlParsesRow.laid) (((OpenSpec.ofChange Rows.sdlParsesSpec).at F).post enc Tryz.prog Tryz.f3 false true false false):=by
 obtain ⟨places,hx⟩:=zFg os enc
 refine returnsInHanded_of_row (C:=Tryz.checked) (s:=OpenSpec.ofChange Rows.sdlParsesSpec) own started (by kernel_rfl) Tryz.func3
  (witness_row_at (enc:=enc) (C:=Tryz.checked) false (laidWorld os) #[.string ⟨#[]⟩] rfl (by kernel_rfl) (by kernel_rfl) (by kernel_rfl)
    (OpenSpec.preRow_of_cond 8 hx (by kernel_rfl) (fun k hk=>by cases hk) (by kernel_rfl) (laid_metSdlParses os))) ?_
 intro W base args ds gs before hval hW _ _ hR hL _ _
 exact zD2 H enc W base args ds gs before hval hW hL hR
theorem zFm {a b:Bool} (h1:a=true) (h2:b=true):(a&&b)=true:=by rw [h1,h2];rfl
theorem zE9:joinedFacts Tryz.prog 3 Tryz.f3 (OpenSpec.ofChange Rows.sdlParsesSpec).bare Rows.sdlParsesRow=true:=by
 unfold joinedFacts
 repeat' (with_reducible apply zFm)
 all_goals as_aux_lemma=>kernel_rfl
theorem zGi:Rows.SdlParsesSaid:=
 OpenClaim.holds_of_cond 3 Tryz.f3 rfl rfl rfl rfl rfl rfl rfl ⟨rfl,rfl,rfl,rfl,rfl⟩ rfl rfl rfl rfl rfl (by kernel_rfl) Tryz.func3 zE9
  (of_decide_eq_true (by kernel_rfl)) (by unfold Func.isWrapper;first | (rw [if_pos (by decide +kernel)];kernel_rfl) | (rw [if_neg (by decide +kernel)];exact ⟨rfl,rfl⟩))
  (fun os started H enc _ F=>by rw [OpenClaim.pre_eq_preRow];exact zE8 os started H enc F)
theorem zFh (f : FuncId) (fn : Func) (hf : Tryz.pinned.checked.prog.funcNamed "supergraph/supergraphlaw06.SdlParses" = some f) (hfn : Tryz.pinned.checked.prog.funcs[f]? = some fn) :
 true=Tryz.pinned.checked.prog.looks [] /\ ∀ (j:Nat) t,fn.params[j]? = some t->Tryz.pinned.checked.prog.wantsStandIn t=false:=by
 obtain rfl : f = 3 := Option.some.inj ((show Tryz.prog.funcNamed "supergraph/supergraphlaw06.SdlParses" = some 3 by kernel_rfl).symm.trans hf) |>.symm
 obtain rfl:fn=Tryz.f3:=(Option.some.inj (Tryz.func3.symm.trans hfn)).symm
 refine ⟨by kernel_rfl,fun j t ht => ?_⟩
 rw [Tryz.params3] at ht
 have hm:=Array.mem_of_getElem? ht
 simp only [List.mem_toArray,List.mem_cons,List.not_mem_nil,or_false] at hm
 rcases hm with rfl
 . exact (show Tryz.prog.wantsStandIn 9=false by kernel_rfl)
end
end Go.Proofs.YthppafnlnnpciaaGreatDoor
