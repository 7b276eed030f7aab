import Derived.Test.YthppafnlnnpciaaGreatDoorQ32
set_option maxHeartbeats 8000000
set_option maxRecDepth 100000
set_option linter.unusedVariables false
set_option linter.unusedSimpArgs false
namespace Go.Proofs.YthppafnlnnpciaaGreatDoor
section
open Go.RowKit
set_option linter.unusedSectionVars false
theorem nb1 {x:Bool} (h:((!x)==false)=true):x=true:=by cases x<;>simp_all
theorem nb0 {x:Bool} (h:((!x)==false)=false):x=false:=by cases x<;>simp_all
theorem nc1 {x:Bool} (h:((!x)==true)=true):x=false:=by cases x<;>simp_all
theorem nc0 {x:Bool} (h:((!x)==true)=false):x=true:=by cases x<;>simp_all
theorem nz1 {n:Int} (h:(n != 0)=true):(n==0)=false:=by simp_all
theorem nz0 {n:Int} (h:(n != 0)=false):(n==0)=true:=by simp_all
theorem cB {a b:Bool} (h:a=b):V.c (.bool a)=V.c (.bool b):=by rw [h]
attribute [local irreducible] wpList Calls Code.wp AW AWo OpOk seqK zm zo loopK endK AC zh Yld Sub
attribute [local irreducible] ACB ACX ACE absLexG YldG absLexH
section
variable {lit:D->Bool} (hN : ∀ s:ByteArray,AC EN5 Tryz.prog 67 [.c (.string s)] (.c (.bool (nameB s)))) (hL : ∀ d:D,AC EN5 Tryz.prog 182 [.agg (cellsV Tryz.prog 12 53 d)] (.c (.bool (lit d)))) (hR : ∀ d:D,AC EN5 Tryz.prog 132 [.agg (cellsV Tryz.prog 12 48 d)] (.c (.bool (refR d))))
include hN hL hR
noncomputable def HrI (l:List D) (i:Nat):Vst 48:=stS 48 [(0,.sl 55 l),(5,.sl 55 l),(6,.c (.int .i64 (l.length:Int))),(7,.c (.int .i64 (i:Int)))] []
theorem zCW (l:List D):AC EN5 Tryz.prog 71 [.sl 55 l] (.c (.bool (insY lit l))):=by
 refine zC7 1 fun hL2 => ?_
 have hl:l.length<=9223372036854775807:=hL2.1
 refine zM 48 Tryz.func71 rfl rfl rfl rfl ?_
 intro s w he
 repeat' (first
|refine zA ?_
|refine zB ?_
|refine zH ?_
|apply aw_1
 conv=>whnf
 refine ⟨?_,trivial⟩
|apply s_1
 conv=>whnf;arg 1;arg 4;arg 3;whnf
 refine ⟨?_,?_⟩
|exact trivial)
 refine zf (fun j st => ∃ i,i+j=l.length/\(∀ m,m<i->inY lit (gD l m)=true)/\Sub (cx EN5 Tryz.prog s w he) st (HrI l i)) l.length ⟨0,by omega,fun m hm=>absurd hm (Nat.not_lt_zero m),Sub.live ⟨rfl,rfl,rfl,rfl,trivial⟩ trivial⟩ ?_
 rintro j st ⟨i,hij,hno,hs2⟩
 refine zi hs2 ?_
 clear hs2
 by_cases hi:i<l.length
 . have g1:decide ((i:Int)<(l.length:Nat))=true:=decide_eq_true (by omega)
   have hn:=hN ((gD l i).f 0).s
   have hr:=hR ((gD l i).f 1)
   have hd:=zBJ hN hL ((gD l i).f 4).l
   have hv:=zC9 hL ((gD l i).f 3)
   have hbad:inY lit (gD l i)=false->insY lit l=false:=fun h=>by unfold insY;rw [zFg hi h,Bool.and_false]
   have hY:inY lit (gD l i)=(nameB ((gD l i).f 0).s&&refR ((gD l i).f 1)&&dirsY lit ((gD l i).f 4).l&&valY lit ((gD l i).f 3)&&(((gD l i).f 2).b||(((gD l i).f 3).f 0).n==0)):=rfl
   generalize nameB ((gD l i).f 0).s=a at hn hY
   generalize refR ((gD l i).f 1)=b at hr hY
   generalize dirsY lit ((gD l i).f 4).l=c at hd hY
   generalize valY lit ((gD l i).f 3)=v at hv hY
   repeat' (first
|apply z7 rfl rfl rfl
 . conv=>lhs;whnf
 . first | rfl | assumption
 . conv=>lhs;whnf
 . first | exact bT1 ‹_› | exact bT2 ‹_› | rfl
|apply zx rfl rfl rfl
 . conv=>lhs;whnf
 . first | rfl | assumption
 . conv=>lhs;whnf
 . first | exact bF1 ‹_› | exact bF2 ‹_› | rfl
|apply zG
 . conv=>lhs;whnf
 . assumption
|refine zA ?_
|refine zB ?_
|refine zH ?_
|refine zW ?_
|apply aw_1
 conv=>whnf
 refine ⟨?_,trivial⟩
|apply zQ rfl rfl
 . conv=>lhs;whnf
 . conv=>lhs;whnf
 . first | exact bT1 ‹_› | exact bT2 ‹_›
|apply zO rfl rfl
 . conv=>lhs;whnf
 . conv=>lhs;whnf
 . first | exact bF1 ‹_› | exact bF2 ‹_›
|apply s_1
 conv=>whnf;arg 1;arg 4;arg 3;whnf
 refine ⟨?_,?_⟩
|apply zY rfl
 . conv=>lhs;whnf
 . conv=>lhs;whnf
 . first | exact hn | exact hr | exact hd | exact hv
|apply zT rfl rfl rfl
 . conv=>lhs;whnf
 . conv=>lhs;whnf;arg 1;whnf
 . conv=>lhs;whnf;arg 1;whnf
 . exact ⟨by kernel_rfl,by kernel_rfl⟩
 . rfl
|apply zD rfl
 . conv=>lhs;whnf
 . conv=>lhs;whnf
 . first | rfl | assumption
 . conv=>lhs;whnf;arg 2;whnf
|apply zX rfl
 . conv=>lhs;whnf
 . conv=>lhs;whnf
 . first | rfl | assumption
 . conv=>lhs;whnf
 . first | exact hn | exact hr | exact hd | exact hv
|apply zV rfl
 . conv=>lhs;whnf
 . conv=>lhs;whnf
 . first | rfl | assumption
|apply zC rfl
 . conv=>lhs;whnf
 . conv=>lhs;whnf
 . conv=>lhs;whnf;arg 2;whnf
|refine ze (by conv=>lhs;whnf) ?_ ?_<;>intro hb
|refine zN ?_
|refine zP ?_
|refine zg ?_
|refine zE ?_
|refine ⟨_,by conv=>lhs;whnf;arg 2;whnf,?_⟩;conv=>rhs;whnf
|exact trivial
|intro hg)
   all_goals first
    |exact zR (by omega)
    |exact zr hi
    |exact cB (hbad (by rw [hY,nb0 (x:=a) ‹_›];rfl))
    |exact cB (hbad (by rw [hY,nb1 (x:=a) ‹_›,nb0 (x:=b) ‹_›];rfl))
    |exact cB (hbad (by rw [hY,nb1 (x:=a) ‹_›,nb1 (x:=b) ‹_›,nb0 (x:=c) ‹_›];rfl))
    |exact cB (hbad (by rw [hY,nb1 (x:=a) ‹_›,nb1 (x:=b) ‹_›,nb1 (x:=c) ‹_›,nb0 (x:=v) ‹_›];rfl))
    |exact cB (hbad (by rw [hY,nb1 (x:=a) ‹_›,nb1 (x:=b) ‹_›,nb1 (x:=c) ‹_›,nb1 (x:=v) ‹_›,show ((gD l i).f 2).b=false from nc1 hg,show ((((gD l i).f 3).f 0).n==0)=false from nz1 hb];rfl))
    |skip
   all_goals
    have hok:inY lit (gD l i)=true:=by
     rw [hY,nb1 (x:=a) ‹_›,nb1 (x:=b) ‹_›,nb1 (x:=c) ‹_›,nb1 (x:=v) ‹_›]
     first
      |(rw [show ((gD l i).f 2).b=true from nc0 hg];rfl)
      |(rw [show ((gD l i).f 2).b=false from nc1 hg,show ((((gD l i).f 3).f 0).n==0)=true from nz0 hb];rfl)
    refine zI (j':=j-1) (by omega) ⟨i+1,by omega,fun m hm => ?_,Sub.live ⟨rfl,rfl,rfl,rfl,trivial⟩ trivial⟩
    by_cases e:m=i
    . subst e;exact hok
    . exact hno m (by omega)
 . have g1:decide ((i:Int)<(l.length:Nat))=false:=decide_eq_false (by omega)
   have hr:insY lit l=decide ((l.length:Int)<=16):=by
    unfold insY
    rw [zDP fun m hm=>hno m (by omega),Bool.and_true]
    exact decide_eq_decide.2 (by omega)
   rw [hr]
   repeat' (first
|apply zF
 . conv=>lhs;whnf
 . assumption
|refine zA ?_
|refine zB ?_
|refine zH ?_
|apply aw_1
 conv=>whnf
 refine ⟨?_,trivial⟩
|apply s_1
 conv=>whnf;arg 1;arg 4;arg 3;whnf
 refine ⟨?_,?_⟩
|refine zL ?_
|refine zJ rfl ?_
|refine zK ?_
|refine zE ?_
|refine ⟨_,by conv=>lhs;whnf;arg 2;whnf,?_⟩;conv=>rhs;whnf
|exact trivial)
   all_goals first
    |rfl
    |skip
noncomputable def HrF (l:List D) (i:Nat):Vst 37:=stS 37 [(0,.sl 50 l),(5,.sl 50 l),(6,.c (.int .i64 (l.length:Int))),(7,.c (.int .i64 (i:Int)))] []
theorem zE5 (l:List D):AC EN5 Tryz.prog 69 [.sl 50 l] (.c (.bool (fdsY lit l))):=by
 refine zC7 1 fun hL2 => ?_
 have hl:l.length<=9223372036854775807:=hL2.1
 refine zM 37 Tryz.func69 rfl rfl rfl rfl ?_
 intro s w he
 repeat' (first
|refine zA ?_
|refine zB ?_
|refine zH ?_
|apply aw_1
 conv=>whnf
 refine ⟨?_,trivial⟩
|apply s_1
 conv=>whnf;arg 1;arg 4;arg 3;whnf
 refine ⟨?_,?_⟩
|exact trivial)
 refine zf (fun j st => ∃ i,i+j=l.length/\(∀ m,m<i->fdY lit (gD l m)=true)/\Sub (cx EN5 Tryz.prog s w he) st (HrF l i)) l.length ⟨0,by omega,fun m hm=>absurd hm (Nat.not_lt_zero m),Sub.live ⟨rfl,rfl,rfl,rfl,trivial⟩ trivial⟩ ?_
 rintro j st ⟨i,hij,hno,hs2⟩
 refine zi hs2 ?_
 clear hs2
 by_cases hi:i<l.length
 . have g1:decide ((i:Int)<(l.length:Nat))=true:=decide_eq_true (by omega)
   have hn:=hN ((gD l i).f 0).s
   have hv:=zCW hN hL hR ((gD l i).f 1).l
   have hr:=hR ((gD l i).f 2)
   have hd:=zBJ hN hL ((gD l i).f 3).l
   have hbad:fdY lit (gD l i)=false->fdsY lit l=false:=fun h=>by unfold fdsY;rw [zFg hi h,Bool.and_false]
   have hY:fdY lit (gD l i)=(nameB ((gD l i).f 0).s&&insY lit ((gD l i).f 1).l&&refR ((gD l i).f 2)&&dirsY lit ((gD l i).f 3).l):=rfl
   generalize nameB ((gD l i).f 0).s=a at hn hY
   generalize refR ((gD l i).f 2)=b at hr hY
   generalize dirsY lit ((gD l i).f 3).l=c at hd hY
   generalize insY lit ((gD l i).f 1).l=v at hv hY
   repeat' (first
|apply zG
 . conv=>lhs;whnf
 . assumption
|refine zA ?_
|refine zB ?_
|refine zH ?_
|refine zW ?_
|apply aw_1
 conv=>whnf
 refine ⟨?_,trivial⟩
|apply zQ rfl rfl
 . conv=>lhs;whnf
 . conv=>lhs;whnf
 . first | exact bT1 ‹_› | exact bT2 ‹_›
|apply zO rfl rfl
 . conv=>lhs;whnf
 . conv=>lhs;whnf
 . first | exact bF1 ‹_› | exact bF2 ‹_›
|apply s_1
 conv=>whnf;arg 1;arg 4;arg 3;whnf
 refine ⟨?_,?_⟩
|apply zY rfl
 . conv=>lhs;whnf
 . conv=>lhs;whnf
 . first | exact hn | exact hr | exact hd | exact hv
|apply zT rfl rfl rfl
 . conv=>lhs;whnf
 . conv=>lhs;whnf;arg 1;whnf
 . conv=>lhs;whnf;arg 1;whnf
 . exact ⟨by kernel_rfl,by kernel_rfl⟩
 . rfl
|apply zD rfl
 . conv=>lhs;whnf
 . conv=>lhs;whnf
 . first | rfl | assumption
 . conv=>lhs;whnf;arg 2;whnf
|apply zX rfl
 . conv=>lhs;whnf
 . conv=>lhs;whnf
 . first | rfl | assumption
 . conv=>lhs;whnf
 . first | exact hn | exact hr | exact hd | exact hv
|apply zV rfl
 . conv=>lhs;whnf
 . conv=>lhs;whnf
 . first | rfl | assumption
|apply zC rfl
 . conv=>lhs;whnf
 . conv=>lhs;whnf
 . conv=>lhs;whnf;arg 2;whnf
|refine ze (by conv=>lhs;whnf) ?_ ?_<;>intro hb
|refine zN ?_
|refine zP ?_
|refine zg ?_
|refine zE ?_
|refine ⟨_,by conv=>lhs;whnf;arg 2;whnf,?_⟩;conv=>rhs;whnf
|exact trivial
|intro hg)
   all_goals first
    |exact zR (by omega)
    |exact zr hi
    |exact cB (hbad (by rw [hY,nb0 (x:=a) ‹_›];rfl))
    |exact cB (hbad (by rw [hY,nb1 (x:=a) ‹_›,nb0 (x:=b) ‹_›];cases v<;>rfl))
    |exact cB (hbad (by rw [hY,nb1 (x:=a) ‹_›,nb1 (x:=b) ‹_›,nb0 (x:=c) ‹_›];cases v<;>rfl))
    |exact cB (hbad (by rw [hY,nb1 (x:=a) ‹_›,nb1 (x:=b) ‹_›,nb1 (x:=c) ‹_›,show v=false by simpa using hb];rfl))
    |skip
   all_goals
    have hok:fdY lit (gD l i)=true:=by
     rw [hY,nb1 (x:=a) ‹_›,nb1 (x:=b) ‹_›,nb1 (x:=c) ‹_›,show v=true by simpa using hb];rfl
    refine zI (j':=j-1) (by omega) ⟨i+1,by omega,fun m hm => ?_,Sub.live ⟨rfl,rfl,rfl,rfl,trivial⟩ trivial⟩
    by_cases e:m=i
    . subst e;exact hok
    . exact hno m (by omega)
 . have g1:decide ((i:Int)<(l.length:Nat))=false:=decide_eq_false (by omega)
   have hr:fdsY lit l=decide ((l.length:Int)<=64):=by
    unfold fdsY
    rw [zDP fun m hm=>hno m (by omega),Bool.and_true]
    exact decide_eq_decide.2 (by omega)
   rw [hr]
   repeat' (first
|apply zF
 . conv=>lhs;whnf
 . assumption
|refine zA ?_
|refine zB ?_
|refine zH ?_
|apply aw_1
 conv=>whnf
 refine ⟨?_,trivial⟩
|apply s_1
 conv=>whnf;arg 1;arg 4;arg 3;whnf
 refine ⟨?_,?_⟩
|refine zL ?_
|refine zJ rfl ?_
|refine zK ?_
|refine zE ?_
|refine ⟨_,by conv=>lhs;whnf;arg 2;whnf,?_⟩;conv=>rhs;whnf
|exact trivial)
   all_goals first
    |rfl
    |skip
end
end
section
open Go.RowKit
set_option linter.unusedSectionVars false
attribute [local irreducible] wpList Calls Code.wp AW AWo OpOk seqK zm zo loopK endK AC zh Yld Sub
attribute [local irreducible] ACB ACX ACE absLexG YldG absLexH
section
variable {lit:D->Bool} (hN : ∀ s:ByteArray,AC EN5 Tryz.prog 67 [.c (.string s)] (.c (.bool (nameB s)))) (hL : ∀ d:D,AC EN5 Tryz.prog 182 [.agg (cellsV Tryz.prog 12 53 d)] (.c (.bool (lit d))))
include hN hL
noncomputable def HrM (l:List D) (u:Bool) (i:Nat):Vst 36:=stS 36 [(0,.sl 79 l),(1,.c (.bool u)),(7,.sl 79 l),(8,.c (.int .i64 (l.length:Int))),(9,.c (.int .i64 (i:Int)))] []
theorem zEP (l:List D) (u:Bool):AC EN5 Tryz.prog 70 [.sl 79 l,.c (.bool u)] (.c (.bool (mbsY lit u l))):=by
 refine zC7 1 fun hL2 => ?_
 have hl:l.length<=9223372036854775807:=hL2.1
 refine zM 36 Tryz.func70 rfl rfl rfl rfl ?_
 intro s w he
 repeat' (first
|refine zA ?_
|refine zB ?_
|refine zH ?_
|apply aw_1
 conv=>whnf
 refine ⟨?_,trivial⟩
|apply s_1
 conv=>whnf;arg 1;arg 4;arg 3;whnf
 refine ⟨?_,?_⟩
|exact trivial)
 refine zf (fun j st => ∃ i,i+j=l.length/\(∀ m,m<i->mbY lit u (gD l m)=true)/\Sub (cx EN5 Tryz.prog s w he) st (HrM l u i)) l.length ⟨0,by omega,fun m hm=>absurd hm (Nat.not_lt_zero m),Sub.live ⟨rfl,rfl,rfl,rfl,rfl,trivial⟩ trivial⟩ ?_
 rintro j st ⟨i,hij,hno,hs2⟩
 refine zi hs2 ?_
 clear hs2
 by_cases hi:i<l.length
 . have g1:decide ((i:Int)<(l.length:Nat))=true:=decide_eq_true (by omega)
   have hn:=hN ((gD l i).f 0).s
   have hd:=zBJ hN hL ((gD l i).f 1).l
   have hbad:mbY lit u (gD l i)=false->mbsY lit u l=false:=fun h=>by unfold mbsY;rw [zFg hi h,Bool.and_false]
   have hz:decide (((gD l i).f 1).l.length=0) = !(decide ((((gD l i).f 1).l.length:Int)>0)):=by
    by_cases h0:((gD l i).f 1).l.length=0
    . rw [decide_eq_true h0,decide_eq_false (by omega)];rfl
    . rw [decide_eq_false h0,decide_eq_true (by omega)];rfl
   have hY:mbY lit u (gD l i)=(nameB ((gD l i).f 0).s&&dirsY lit ((gD l i).f 1).l&&(!u || !(decide ((((gD l i).f 1).l.length:Int)>0)))):=by unfold mbY;rw [hz]
   generalize nameB ((gD l i).f 0).s=a at hn hY
   generalize dirsY lit ((gD l i).f 1).l=c at hd hY
   cases u with
   |false =>
    have K:(false==true)=true->False:=by decide
    repeat' (first
|apply zx rfl rfl rfl
 . conv=>lhs;whnf
 . first | rfl | assumption
 . conv=>lhs;whnf
 . first | exact bF1 ‹_› | exact bF2 ‹_› | rfl
|apply zG
 . conv=>lhs;whnf
 . assumption
|refine zA ?_
|refine zB ?_
|refine zH ?_
|refine zW ?_
|apply aw_1
 conv=>whnf
 refine ⟨?_,trivial⟩
|apply zQ rfl rfl
 . conv=>lhs;whnf
 . conv=>lhs;whnf
 . first | exact bT1 ‹_› | exact bT2 ‹_›
|apply zO rfl rfl
 . conv=>lhs;whnf
 . conv=>lhs;whnf
 . first | exact bF1 ‹_› | exact bF2 ‹_›
|apply s_1
 conv=>whnf;arg 1;arg 4;arg 3;whnf
 refine ⟨?_,?_⟩
|apply zY rfl
 . conv=>lhs;whnf
 . conv=>lhs;whnf
 . first | exact hn | exact hd
|apply zT rfl rfl rfl
 . conv=>lhs;whnf
 . conv=>lhs;whnf;arg 1;whnf
 . conv=>lhs;whnf;arg 1;whnf
 . exact ⟨by kernel_rfl,by kernel_rfl⟩
 . rfl
|apply zD rfl
 . conv=>lhs;whnf
 . conv=>lhs;whnf
 . first | rfl | assumption
 . conv=>lhs;whnf;arg 2;whnf
|apply zX rfl
 . conv=>lhs;whnf
 . conv=>lhs;whnf
 . first | rfl | assumption
 . conv=>lhs;whnf
 . first | exact hn | exact hd
|apply zV rfl
 . conv=>lhs;whnf
 . conv=>lhs;whnf
 . first | rfl | assumption
|apply zC rfl
 . conv=>lhs;whnf
 . conv=>lhs;whnf
 . conv=>lhs;whnf;arg 2;whnf
|refine zN ?_
|refine zP ?_
|refine zg ?_
|refine zE ?_
|refine ⟨_,by conv=>lhs;whnf;arg 2;whnf,?_⟩;conv=>rhs;whnf
|exact trivial
|intro hg)
    all_goals first
     |exact zR (by omega)
     |exact zr hi
     |exact cB (hbad (by rw [hY,nb0 (x:=a) ‹_›];rfl))
     |exact cB (hbad (by rw [hY,nb1 (x:=a) ‹_›,nb0 (x:=c) ‹_›];rfl))
     |skip
    all_goals
     have hok:mbY lit false (gD l i)=true:=by
      rw [hY,nb1 (x:=a) ‹_›,nb1 (x:=c) ‹_›];rfl
     refine zI (j':=j-1) (by omega) ⟨i+1,by omega,fun m hm => ?_,Sub.live ⟨rfl,rfl,rfl,rfl,rfl,trivial⟩ trivial⟩
     by_cases e:m=i
     . subst e;exact hok
     . exact hno m (by omega)
   |true =>
    have K:(true==true)=false->False:=by decide
    repeat' (first
|apply z7 rfl rfl rfl
 . conv=>lhs;whnf
 . first | rfl | assumption
 . conv=>lhs;whnf
 . first | exact bT1 ‹_› | exact bT2 ‹_› | rfl
|apply zG
 . conv=>lhs;whnf
 . assumption
|refine zA ?_
|refine zB ?_
|refine zH ?_
|refine zW ?_
|apply aw_1
 conv=>whnf
 refine ⟨?_,trivial⟩
|apply zQ rfl rfl
 . conv=>lhs;whnf
 . conv=>lhs;whnf
 . first | exact bT1 ‹_› | exact bT2 ‹_›
|apply zO rfl rfl
 . conv=>lhs;whnf
 . conv=>lhs;whnf
 . first | exact bF1 ‹_› | exact bF2 ‹_›
|apply s_1
 conv=>whnf;arg 1;arg 4;arg 3;whnf
 refine ⟨?_,?_⟩
|apply zY rfl
 . conv=>lhs;whnf
 . conv=>lhs;whnf
 . first | exact hn | exact hd
|apply zT rfl rfl rfl
 . conv=>lhs;whnf
 . conv=>lhs;whnf;arg 1;whnf
 . conv=>lhs;whnf;arg 1;whnf
 . exact ⟨by kernel_rfl,by kernel_rfl⟩
 . rfl
|apply zD rfl
 . conv=>lhs;whnf
 . conv=>lhs;whnf
 . first | rfl | assumption
 . conv=>lhs;whnf;arg 2;whnf
|apply zX rfl
 . conv=>lhs;whnf
 . conv=>lhs;whnf
 . first | rfl | assumption
 . conv=>lhs;whnf
 . first | exact hn | exact hd
|apply zV rfl
 . conv=>lhs;whnf
 . conv=>lhs;whnf
 . first | rfl | assumption
|apply zC rfl
 . conv=>lhs;whnf
 . conv=>lhs;whnf
 . conv=>lhs;whnf;arg 2;whnf
|refine ze (by conv=>lhs;whnf) ?_ ?_<;>intro hb
|refine zN ?_
|refine zP ?_
|refine zg ?_
|refine zE ?_
|refine ⟨_,by conv=>lhs;whnf;arg 2;whnf,?_⟩;conv=>rhs;whnf
|exact trivial
|intro hg)
    all_goals first
     |exact zR (by omega)
     |exact zr hi
     |exact cB (hbad (by rw [hY,nb0 (x:=a) ‹_›];rfl))
     |exact cB (hbad (by rw [hY,nb1 (x:=a) ‹_›,nb0 (x:=c) ‹_›];rfl))
     |exact cB (hbad (by rw [hY,nb1 (x:=a) ‹_›,nb1 (x:=c) ‹_›,show decide ((((gD l i).f 1).l.length:Int)>0)=true from hb];rfl))
     |skip
    all_goals
     have hok:mbY lit true (gD l i)=true:=by
      rw [hY,nb1 (x:=a) ‹_›,nb1 (x:=c) ‹_›,show decide ((((gD l i).f 1).l.length:Int)>0)=false from hb];rfl
     refine zI (j':=j-1) (by omega) ⟨i+1,by omega,fun m hm => ?_,Sub.live ⟨rfl,rfl,rfl,rfl,rfl,trivial⟩ trivial⟩
     by_cases e:m=i
     . subst e;exact hok
     . exact hno m (by omega)
 . have g1:decide ((i:Int)<(l.length:Nat))=false:=decide_eq_false (by omega)
   have hr:mbsY lit u l=decide ((l.length:Int)<=64):=by
    unfold mbsY
    rw [zDP fun m hm=>hno m (by omega),Bool.and_true]
    exact decide_eq_decide.2 (by omega)
   rw [hr]
   repeat' (first
|apply zF
 . conv=>lhs;whnf
 . assumption
|refine zA ?_
|refine zB ?_
|refine zH ?_
|apply aw_1
 conv=>whnf
 refine ⟨?_,trivial⟩
|apply s_1
 conv=>whnf;arg 1;arg 4;arg 3;whnf
 refine ⟨?_,?_⟩
|refine zL ?_
|refine zJ rfl ?_
|refine zK ?_
|refine zE ?_
|refine ⟨_,by conv=>lhs;whnf;arg 2;whnf,?_⟩;conv=>rhs;whnf
|exact trivial)
   all_goals first
    |rfl
    |skip
end
end
section
open Go.RowKit
set_option linter.unusedSectionVars false
theorem zKp (k:Int):decide (1<=k/\k<=5)=((k==1||k==2)||(k==3||k==4)||k==5):=by
 by_cases h1:k=1
 . subst h1;rfl
 by_cases h2:k=2
 . subst h2;rfl
 by_cases h3:k=3
 . subst h3;rfl
 by_cases h4:k=4
 . subst h4;rfl
 by_cases h5:k=5
 . subst h5;rfl
 rw [decide_eq_false (by omega),beq_eq_false_iff_ne.2 h1,beq_eq_false_iff_ne.2 h2,beq_eq_false_iff_ne.2 h3,beq_eq_false_iff_ne.2 h4,beq_eq_false_iff_ne.2 h5];rfl
theorem zJf (n:Nat):decide (0<n)=decide ((n:Int)>0):=decide_eq_decide.2 (by omega)
theorem defY_eq (lit:D->Bool) (d:D):defY lit d =
 ((((d.f 0).n==1||(d.f 0).n==2)||((d.f 0).n==3||(d.f 0).n==4)||(d.f 0).n==5)&&(decide ((d.f 2).l.length=0)||(d.f 0).n==1)&&(((d.f 0).n==1||(d.f 0).n==2)==decide (((d.f 4).l.length:Int)>0))&&(((d.f 0).n==3||(d.f 0).n==4)==decide (((d.f 5).l.length:Int)>0))&&(((d.f 0).n==5)==decide (((d.f 6).l.length:Int)>0))&&nameB (d.f 1).s&&dirsY lit (d.f 3).l&&(decide (((d.f 2).l.length:Int)<=64)&&(d.f 2).l.all fun x=>nameB x.s)&&fdsY lit (d.f 4).l&&mbsY lit ((d.f 0).n==3) (d.f 5).l&&insY lit (d.f 6).l):=by
 unfold defY kindY imY
 rw [zKp,zJf,zJf,zJf,show decide ((d.f 2).l.length<=64)=decide (((d.f 2).l.length:Int)<=64) from decide_eq_decide.2 (by omega)]
attribute [local irreducible] wpList Calls Code.wp AW AWo OpOk seqK zm zo loopK endK AC zh Yld Sub
attribute [local irreducible] ACB ACX ACE absLexG YldG absLexH absLexU YldU
noncomputable def HdR (d:D) (F M I:Bool):Vst 109:=stS 109 [(1,.bx 1 0),(3,.c (.bool F)),(4,.c (.bool M)),(5,.c (.bool I))] [(1,.box 45 (cellsV Tryz.prog 12 45 d))]
noncomputable def HdS (d:D) (i:Nat):Vst 109:=stS 109 [(1,.bx 1 0),(72,.sl 9 (d.f 2).l),(73,.c (.int .i64 ((d.f 2).l.length:Int))),(74,.c (.int .i64 (i:Int)))] [(1,.box 45 (cellsV Tryz.prog 12 45 d))]
section
variable {lit:D->Bool} (hN : ∀ s:ByteArray,AC EN5 Tryz.prog 67 [.c (.string s)] (.c (.bool (nameB s)))) (hL : ∀ d:D,AC EN5 Tryz.prog 182 [.agg (cellsV Tryz.prog 12 53 d)] (.c (.bool (lit d)))) (hR : ∀ d:D,AC EN5 Tryz.prog 132 [.agg (cellsV Tryz.prog 12 48 d)] (.c (.bool (refR d))))
include hN hL hR
theorem zIM (d:D) (hl:(d.f 2).l.length<=9223372036854775807):AC EN5 Tryz.prog 34 [.agg (cellsV Tryz.prog 12 45 d)] (.c (.bool (defY lit d))):=by
 have hn:=hN (d.f 1).s
 have hd:=zBJ hN hL (d.f 3).l
 have hfs:=zE5 hN hL hR (d.f 4).l
 have hms:=zEP hN hL (d.f 5).l ((d.f 0).n==3)
 have his:=zCW hN hL hR (d.f 6).l
 have hY:=defY_eq lit d
 obtain ⟨r,hr⟩ : ∃ r,r=defY lit d:=⟨_,rfl⟩
 rw [<- hr]
 rw [<- hr] at hY
 clear hr
 generalize nameB (d.f 1).s=a at hn hY
 generalize dirsY lit (d.f 3).l=c at hd hY
 generalize fdsY lit (d.f 4).l=fs at hfs hY
 generalize mbsY lit ((d.f 0).n==3) (d.f 5).l=ms at hms hY
 generalize insY lit (d.f 6).l=is at his hY
 obtain ⟨F,hF⟩ : ∃ F,F=((d.f 0).n==1||(d.f 0).n==2):=⟨_,rfl⟩
 obtain ⟨M,hM⟩ : ∃ M,M=((d.f 0).n==3||(d.f 0).n==4):=⟨_,rfl⟩
 obtain ⟨I,hI⟩ : ∃ I,I=((d.f 0).n==5):=⟨_,rfl⟩
 refine zM 109 Tryz.func34 rfl rfl rfl rfl ?_
 intro s w he
 repeat' (first
|apply aw_drawUn 22 ([(1,[1]),(5,[1]),(9,[1]),(13,[1]),(17,[1])]) ([]) rfl (by kernel_rfl) (by kernel_rfl) (by kernel_rfl)
|apply u_nil
|apply u_pick_t rfl rfl
 . conv=>lhs;whnf
 . conv=>lhs;whnf
 . first | exact bT1 ‹_› | exact bT2 ‹_›
|apply u_pick_f rfl rfl
 . conv=>lhs;whnf
 . conv=>lhs;whnf
 . first | exact bF1 ‹_› | exact bF2 ‹_›
|apply u_val rfl
 . conv=>lhs;whnf
 . conv=>lhs;whnf;arg 2;whnf
|apply zEH rfl
 . conv=>lhs;whnf
 . conv=>lhs;whnf
 . first | rfl | assumption
 . conv=>lhs;whnf;arg 2;whnf
|apply u_skip rfl
 . conv=>lhs;whnf
 . conv=>lhs;whnf
 . first | rfl | assumption
|apply zJT rfl
 . conv=>lhs;whnf
 . conv=>lhs;whnf
 . conv=>lhs;whnf;arg 2;whnf
|show inO _ _=true;rfl
|apply zq 2 (HdR d F M I) rfl
|refine zBw ?_
|refine zA ?_
|refine zB ?_
|refine zH ?_
|apply aw_1
 conv=>whnf
 refine ⟨?_,trivial⟩
|apply zQ rfl rfl
 . conv=>lhs;whnf
 . conv=>lhs;whnf
 . first | exact bT1 ‹_› | exact bT2 ‹_›
|apply zO rfl rfl
 . conv=>lhs;whnf
 . conv=>lhs;whnf
 . first | exact bF1 ‹_› | exact bF2 ‹_›
|apply s_1
 conv=>whnf;arg 1;arg 4;arg 3;whnf
 refine ⟨?_,?_⟩
|apply zAF rfl rfl rfl rfl
 . conv=>lhs;whnf;arg 1;whnf
 . rfl
|apply zD rfl
 . conv=>lhs;whnf
 . conv=>lhs;whnf
 . first | rfl | assumption
 . conv=>lhs;whnf;arg 2;whnf
|apply zX rfl
 . conv=>lhs;whnf
 . conv=>lhs;whnf
 . first | rfl | assumption
 . conv=>lhs;whnf
 . first | exact hn | exact hd | exact hfs | exact hms | exact his
|apply zV rfl
 . conv=>lhs;whnf
 . conv=>lhs;whnf
 . first | rfl | assumption
|apply zC rfl
 . conv=>lhs;whnf
 . conv=>lhs;whnf
 . conv=>lhs;whnf;arg 2;whnf
|refine ze (by conv=>lhs;whnf) ?_ ?_<;>intro hb
|refine zN ?_
|refine zE ?_
|refine ⟨_,by conv=>lhs;whnf;arg 2;whnf,?_⟩;conv=>rhs;whnf
|exact trivial
|intro hg)
 all_goals first
  |exact zR (by omega)
  |exact (show Tryz.prog.underlying 4=some TypeDesc.bool by kernel_rfl)
  |(refine Sub.live ⟨rfl,cB ?_,cB ?_,cB ?_,trivial⟩ ⟨rfl,trivial⟩<;>clear hn hd hfs hms his hN hL hR he hY<;>simp_all;done)
  |(refine cB ?_;clear hn hd hfs hms his hN hL hR he;rw [hY,<- hF,<- hM,<- hI];clear hF hM hI hY;simp_all;done)
  |skip
 all_goals
  clear hn hd
  refine zf (fun j st => ∃ i,i+j=(d.f 2).l.length/\(∀ m,m<i->((d.f 0).n==1)=true/\nameB (gD (d.f 2).l m).s=true)/\Sub (cx EN5 Tryz.prog s w he) st (HdS d i)) (d.f 2).l.length ⟨0,by omega,fun m hm=>absurd hm (Nat.not_lt_zero m),Sub.live ⟨rfl,rfl,rfl,rfl,trivial⟩ ⟨rfl,trivial⟩⟩ ?_
  rintro j st ⟨i,hij,hno,hs2⟩
  refine zi hs2 ?_
  clear hs2
  by_cases hi:i<(d.f 2).l.length
  . have g1:decide ((i:Int)<((d.f 2).l.length:Nat))=true:=decide_eq_true (by omega)
    have he0:decide ((d.f 2).l.length=0)=false:=decide_eq_false (by omega)
    cases hk1:((d.f 0).n==1) with
    |false =>
     have hrf:r=false:=by
      rw [hY,he0,hk1]
      simp
     have K:((d.f 0).n != 1)=false->False:=fun h=>by
      have h:(!((d.f 0).n==1))=false:=h
      rw [hk1] at h;cases h
     have K2:(((d.f 0).n != 1)==false)=true->False:=fun h=>by
      have h:((!((d.f 0).n==1))==false)=true:=h
      rw [hk1] at h;cases h
     rw [hrf]
     repeat' (first
|apply zG
 . conv=>lhs;whnf
 . assumption
|exact (K2 ‹_›).elim
|refine zA ?_
|refine zB ?_
|refine zH ?_
|apply aw_1
 conv=>whnf
 refine ⟨?_,trivial⟩
|apply zQ rfl rfl
 . conv=>lhs;whnf
 . conv=>lhs;whnf
 . first | exact bT1 ‹_› | exact bT2 ‹_›
|apply s_1
 conv=>whnf;arg 1;arg 4;arg 3;whnf
 refine ⟨?_,?_⟩
|apply zV rfl
 . conv=>lhs;whnf
 . conv=>lhs;whnf
 . first | rfl | assumption
|apply zC rfl
 . conv=>lhs;whnf
 . conv=>lhs;whnf
 . conv=>lhs;whnf;arg 2;whnf
|refine zN ?_
|refine zP ?_
|refine zg ?_
|refine zE ?_
|refine ⟨_,by conv=>lhs;whnf;arg 2;whnf,?_⟩;conv=>rhs;whnf
|exact trivial
|intro hg)
     all_goals first
      |exact zR (by omega)
      |exact zr hi
      |rfl
      |skip
    |true =>
     have K:((d.f 0).n != 1)=true->False:=fun h=>by
      have h:(!((d.f 0).n==1))=true:=h
      rw [hk1] at h;cases h
     have K2:(((d.f 0).n != 1)==false)=false->False:=fun h=>by
      have h:((!((d.f 0).n==1))==false)=false:=h
      rw [hk1] at h;cases h
     have hn2:=hN (gD (d.f 2).l i).s
     cases hnb:nameB (gD (d.f 2).l i).s with
     |false =>
      have hrf:r=false:=by
       rw [hY,zFg (p:=fun x=>nameB x.s) hi hnb]
       simp
      rw [hrf]
      rw [hnb] at hn2
      have f5:(!false)=true:=rfl
      repeat' (first
|apply zG
 . conv=>lhs;whnf
 . assumption
|exact (K2 ‹_›).elim
|refine zA ?_
|refine zB ?_
|refine zH ?_
|apply aw_1
 conv=>whnf
 refine ⟨?_,trivial⟩
|apply zO rfl rfl
 . conv=>lhs;whnf
 . conv=>lhs;whnf
 . first | exact bF1 ‹_› | exact bF2 ‹_›
|apply s_1
 conv=>whnf;arg 1;arg 4;arg 3;whnf
 refine ⟨?_,?_⟩
|apply zD rfl
 . conv=>lhs;whnf
 . conv=>lhs;whnf
 . first | rfl | assumption
 . conv=>lhs;whnf;arg 2;whnf
|apply zX rfl
 . conv=>lhs;whnf
 . conv=>lhs;whnf
 . first | rfl | assumption
 . conv=>lhs;whnf
 . first | exact hn2
|apply zC rfl
 . conv=>lhs;whnf
 . conv=>lhs;whnf
 . conv=>lhs;whnf;arg 2;whnf
|refine zN ?_
|refine zP ?_
|refine zg ?_
|refine zE ?_
|refine ⟨_,by conv=>lhs;whnf;arg 2;whnf,?_⟩;conv=>rhs;whnf
|exact trivial
|intro hg)
      all_goals first
       |exact zR (by omega)
       |exact zr hi
       |rfl
       |skip
     |true =>
      rw [hnb] at hn2
      have f5:(!true)=false:=rfl
      repeat' (first
|apply zG
 . conv=>lhs;whnf
 . assumption
|apply zF
 . conv=>lhs;whnf
 . assumption
|exact (K2 ‹_›).elim
|refine zA ?_
|refine zB ?_
|refine zH ?_
|refine zW ?_
|apply aw_1
 conv=>whnf
 refine ⟨?_,trivial⟩
|apply zO rfl rfl
 . conv=>lhs;whnf
 . conv=>lhs;whnf
 . first | exact bF1 ‹_› | exact bF2 ‹_›
|apply s_1
 conv=>whnf;arg 1;arg 4;arg 3;whnf
 refine ⟨?_,?_⟩
|apply zD rfl
 . conv=>lhs;whnf
 . conv=>lhs;whnf
 . first | rfl | assumption
 . conv=>lhs;whnf;arg 2;whnf
|apply zX rfl
 . conv=>lhs;whnf
 . conv=>lhs;whnf
 . first | rfl | assumption
 . conv=>lhs;whnf
 . first | exact hn2
|apply zC rfl
 . conv=>lhs;whnf
 . conv=>lhs;whnf
 . conv=>lhs;whnf;arg 2;whnf
|exact trivial
|intro hg)
      all_goals first
       |exact zR (by omega)
       |exact zr hi
       |skip
      refine zI (j':=j-1) (by omega) ⟨i+1,by omega,fun m hm => ?_,Sub.live ⟨rfl,rfl,rfl,rfl,trivial⟩ ⟨rfl,trivial⟩⟩
      by_cases e:m=i
      . subst e;exact ⟨rfl,hnb⟩
      . exact ⟨rfl,(hno m (by omega)).2⟩
  . have g1:decide ((i:Int)<((d.f 2).l.length:Nat))=false:=decide_eq_false (by omega)
    have hall:((d.f 2).l.all fun x=>nameB x.s)=true:=zDP fun m hm=>(hno m (by omega)).2
    have hei:(decide ((d.f 2).l.length=0)||(d.f 0).n==1)=true:=by
     by_cases h0:(d.f 2).l.length=0
     . rw [decide_eq_true h0];rfl
     . rw [(hno 0 (by omega)).1];simp
    rw [hall,hei] at hY
    repeat' (first
|apply zF
 . conv=>lhs;whnf
 . assumption
|refine zA ?_
|refine zB ?_
|refine zH ?_
|apply aw_1
 conv=>whnf
 refine ⟨?_,trivial⟩
|apply zQ rfl rfl
 . conv=>lhs;whnf
 . conv=>lhs;whnf
 . first | exact bT1 ‹_› | exact bT2 ‹_›
|apply zO rfl rfl
 . conv=>lhs;whnf
 . conv=>lhs;whnf
 . first | exact bF1 ‹_› | exact bF2 ‹_›
|apply s_1
 conv=>whnf;arg 1;arg 4;arg 3;whnf
 refine ⟨?_,?_⟩
|apply zD rfl
 . conv=>lhs;whnf
 . conv=>lhs;whnf
 . first | rfl | assumption
 . conv=>lhs;whnf;arg 2;whnf
|apply zX rfl
 . conv=>lhs;whnf
 . conv=>lhs;whnf
 . first | rfl | assumption
 . conv=>lhs;whnf
 . first | exact hfs | exact hms | exact his
|apply zV rfl
 . conv=>lhs;whnf
 . conv=>lhs;whnf
 . first | rfl | assumption
|apply zC rfl
 . conv=>lhs;whnf
 . conv=>lhs;whnf
 . conv=>lhs;whnf;arg 2;whnf
|refine zL ?_
|refine zJ rfl ?_
|refine zK ?_
|refine zE ?_
|refine ⟨_,by conv=>lhs;whnf;arg 2;whnf,?_⟩;conv=>rhs;whnf
|exact trivial
|intro hg)
    all_goals first
     |(refine cB ?_;rw [hY,show decide (((d.f 2).l.length:Int)<=64)=false from bF1 hg];simp;done)
     |(refine cB ?_;clear hfs hms his hN hL hR he hno hall hei hij g1 hl;rw [hY,<- hF,<- hM,<- hI];clear hF hM hI hY;simp_all;done)
     |skip
end
end
section
open Go.RowKit
set_option linter.unusedSectionVars false
theorem len_im {n:Nat} {d:D} (h:LenT Tryz.prog (n+2) 45 d):(d.f 2).l.length<=maxLen:=
 (LenT.lst (t:=39) (e:=9) (by kernel_rfl) (LenT.fld 2 (fs:=Tryz.prog.fieldsOf 45) (f:=(Tryz.prog.fieldsOf 45)[2]!) (by kernel_rfl) (by kernel_rfl) h)).1
theorem zHS {n:Nat} {d:D} (h:LenT Tryz.prog (n+2) 25 d) : ∀ i,i<(d.f 0).l.length->LenT Tryz.prog n 45 (gD (d.f 0).l i):=
 (LenT.lst (t:=23) (e:=45) (by kernel_rfl) (LenT.fld 0 (fs:=Tryz.prog.fieldsOf 25) (f:=(Tryz.prog.fieldsOf 25)[0]!) (by kernel_rfl) (by kernel_rfl) h)).2 (by decide +kernel)
theorem docY_eq (lit:D->Bool) (l:List D) (h:l.all (defY lit)=true):docY lit l=(decide ((l.length:Int)>=1)&&decide ((l.length:Int)<=64)):=by
 unfold docY
 rw [h,Bool.and_true,Bool.decide_and]
 congr 1
 . exact decide_eq_decide.2 (by omega)
 . exact decide_eq_decide.2 (by omega)
attribute [local irreducible] wpList Calls Code.wp AW AWo OpOk seqK zm zo loopK endK AC zh Yld Sub
attribute [local irreducible] ACB ACX ACE absLexG YldG absLexH absLexU YldU
noncomputable def HrQ (d:D) (i:Nat):Vst 26:=stS 26 [(1,.bx 1 0),(6,.sl 45 (d.f 0).l),(7,.c (.int .i64 ((d.f 0).l.length:Int))),(8,.c (.int .i64 (i:Int)))] [(1,.box 25 (cellsV Tryz.prog 12 25 d))]
section
variable {lit:D->Bool} (hN : ∀ s:ByteArray,AC EN5 Tryz.prog 67 [.c (.string s)] (.c (.bool (nameB s)))) (hL : ∀ d:D,AC EN5 Tryz.prog 182 [.agg (cellsV Tryz.prog 12 53 d)] (.c (.bool (lit d)))) (hR : ∀ d:D,AC EN5 Tryz.prog 132 [.agg (cellsV Tryz.prog 12 48 d)] (.c (.bool (refR d))))
include hN hL hR
theorem zIE (d:D):AC EN5 Tryz.prog 14 [.agg (cellsV Tryz.prog 12 25 d)] (.c (.bool (docY lit (d.f 0).l))):=by
 refine zA1 4 (by kernel_rfl) fun hL2 => ?_
 have hl:(d.f 0).l.length<=9223372036854775807:=zHQ hL2
 have hd:=fun i (hi:i<(d.f 0).l.length)=>zIM hN hL hR (gD (d.f 0).l i) (len_im (zHS hL2 i hi))
 refine zM 26 Tryz.func14 rfl rfl rfl rfl ?_
 intro s w he
 repeat' (first
|refine zA ?_
|refine zB ?_
|refine zH ?_
|apply aw_1
 conv=>whnf
 refine ⟨?_,trivial⟩
|apply s_1
 conv=>whnf;arg 1;arg 4;arg 3;whnf
 refine ⟨?_,?_⟩
|apply zAF rfl rfl rfl rfl
 . conv=>lhs;whnf;arg 1;whnf
 . rfl
|exact trivial)
 refine zf (fun j st => ∃ i,i+j=(d.f 0).l.length/\(∀ m,m<i->defY lit (gD (d.f 0).l m)=true)/\Sub (cx EN5 Tryz.prog s w he) st (HrQ d i)) (d.f 0).l.length ⟨0,by omega,fun m hm=>absurd hm (Nat.not_lt_zero m),Sub.live ⟨rfl,rfl,rfl,rfl,trivial⟩ ⟨rfl,trivial⟩⟩ ?_
 rintro j st ⟨i,hij,hno,hs2⟩
 refine zi hs2 ?_
 clear hs2
 by_cases hi:i<(d.f 0).l.length
 . have g1:decide ((i:Int)<((d.f 0).l.length:Nat))=true:=decide_eq_true (by omega)
   have h1:=hd i hi
   cases hY:defY lit (gD (d.f 0).l i) with
   |false =>
    rw [hY] at h1
    rw [show docY lit (d.f 0).l=false by unfold docY;rw [zFg hi hY,Bool.and_false]]
    have f5:(!false)=true:=rfl
    repeat' (first
|apply zG
 . conv=>lhs;whnf
 . assumption
|refine zA ?_
|refine zB ?_
|refine zH ?_
|apply aw_1
 conv=>whnf
 refine ⟨?_,trivial⟩
|apply s_1
 conv=>whnf;arg 1;arg 4;arg 3;whnf
 refine ⟨?_,?_⟩
|apply zY rfl
 . conv=>lhs;whnf
 . conv=>lhs;whnf
 . first | exact h1
|apply zT rfl rfl rfl
 . conv=>lhs;whnf
 . conv=>lhs;whnf;arg 1;whnf
 . conv=>lhs;whnf;arg 1;whnf
 . exact ⟨by kernel_rfl,by kernel_rfl⟩
 . rfl
|refine zN ?_
|refine zP ?_
|refine zg ?_
|refine zE ?_
|refine ⟨_,by conv=>lhs;whnf;arg 2;whnf,?_⟩;conv=>rhs;whnf
|exact trivial)
    all_goals first
     |exact zR (by omega)
     |exact zr hi
     |rfl
     |skip
   |true =>
    rw [hY] at h1
    have f5:(!true)=false:=rfl
    repeat' (first
|apply zG
 . conv=>lhs;whnf
 . assumption
|apply zF
 . conv=>lhs;whnf
 . assumption
|refine zA ?_
|refine zB ?_
|refine zH ?_
|refine zW ?_
|apply aw_1
 conv=>whnf
 refine ⟨?_,trivial⟩
|apply s_1
 conv=>whnf;arg 1;arg 4;arg 3;whnf
 refine ⟨?_,?_⟩
|apply zY rfl
 . conv=>lhs;whnf
 . conv=>lhs;whnf
 . first | exact h1
|apply zT rfl rfl rfl
 . conv=>lhs;whnf
 . conv=>lhs;whnf;arg 1;whnf
 . conv=>lhs;whnf;arg 1;whnf
 . exact ⟨by kernel_rfl,by kernel_rfl⟩
 . rfl
|exact trivial)
    all_goals first
     |exact zR (by omega)
     |exact zr hi
     |skip
    refine zI (j':=j-1) (by omega) ⟨i+1,by omega,fun m hm => ?_,Sub.live ⟨rfl,rfl,rfl,rfl,trivial⟩ ⟨rfl,trivial⟩⟩
    by_cases e:m=i
    . subst e;exact hY
    . exact hno m (by omega)
 . have g1:decide ((i:Int)<((d.f 0).l.length:Nat))=false:=decide_eq_false (by omega)
   rw [docY_eq lit _ (zDP fun m hm=>hno m (by omega))]
   repeat' (first
|apply zF
 . conv=>lhs;whnf
 . assumption
|refine zA ?_
|refine zB ?_
|refine zH ?_
|apply aw_1
 conv=>whnf
 refine ⟨?_,trivial⟩
|apply zQ rfl rfl
 . conv=>lhs;whnf
 . conv=>lhs;whnf
 . first | exact bT1 ‹_› | exact bT2 ‹_›
|apply zO rfl rfl
 . conv=>lhs;whnf
 . conv=>lhs;whnf
 . first | exact bF1 ‹_› | exact bF2 ‹_›
|apply s_1
 conv=>whnf;arg 1;arg 4;arg 3;whnf
 refine ⟨?_,?_⟩
|apply zD rfl
 . conv=>lhs;whnf
 . conv=>lhs;whnf
 . first | rfl | assumption
 . conv=>lhs;whnf;arg 2;whnf
|apply zV rfl
 . conv=>lhs;whnf
 . conv=>lhs;whnf
 . first | rfl | assumption
|apply zC rfl
 . conv=>lhs;whnf
 . conv=>lhs;whnf
 . conv=>lhs;whnf;arg 2;whnf
|refine zL ?_
|refine zJ rfl ?_
|refine zK ?_
|refine zE ?_
|refine ⟨_,by conv=>lhs;whnf;arg 2;whnf,?_⟩;conv=>rhs;whnf
|exact trivial
|intro hg)
   all_goals first
    |exact cB (by rw [show decide (((d.f 0).l.length:Int)>=1)=true from bT1 hg];rfl)
    |exact cB (by rw [show decide (((d.f 0).l.length:Int)>=1)=false from bF1 hg];rfl)
    |skip
end
end
section
open Go.RowKit
set_option linter.unusedSectionVars false
def exT6:List UInt8:=[116,121,112,101,32,65,32,123,32,120,40,97,58,32,73,110,116,32,61,32,49,41,58,32,91,73,110,116,33,93,32,64,98,32,125]
def exB6:List UInt8:=[116,121,112,101,32,65,32,123,32,125]
def exS:D:=match parseD exT6 with
 |.ok q=>q
 |.error _=>default
theorem zI6:parseD exT6 = .ok exS:=by kernel_rfl
theorem ex6_bad:parseD exB6 = .error (9,3):=by kernel_rfl
theorem of_dec6 {p:Prop} [Decidable p] (h:decide p=true):p:=of_decide_eq_true h
theorem ff_t6 {b:Bool} (h:b=false) (h2:b=true):False:=by rw [h] at h2;cases h2
theorem AC.arg6 {e:Ge} {P:Program} {f:FuncId} {args args':List V} {r:V} (hle:VLeL args' args) (h:AC e P f args r):AC e P f args' r:=fun s w us hr hx he=>h s w us (zDz hle hr) hx he
attribute [local irreducible] wpList Calls Code.wp AW AWo OpOk seqK zm zo loopK endK AC zh Yld Sub
attribute [local irreducible] ACB ACX ACE absLexG YldG absLexH
theorem example_ac {lit:D->Bool} (hRt : ∀ d:D,AC EN5 Tryz.prog 14 [.agg (cellsV Tryz.prog 12 25 d)] (.c (.bool (docY lit (d.f 0).l)))) (hX:docY lit (exS.f 0).l=true):AC EN5 Tryz.prog 9 [] (.c (.bool true)):=by
 have h1:AC EN5 Tryz.prog 10 [.c (.string { data:=#[116,121,112,101,32,65,32,123,32,120,40,97,58,32,73,110,116,32,61,32,49,41,58,32,91,73,110,116,33,93,32,64,98,32,125] })] (parseV (.ok exS)):=by
  have:=zBt exT6 (by decide)
  rw [zI6] at this
  exact this
 have h2:AC EN5 Tryz.prog 10 [.c (.string { data:=#[116,121,112,101,32,65,32,123,32,125] })] (parseV (.error (9,3))):=by
  have:=zBt exB6 (by decide)
  rw [ex6_bad] at this
  exact this
 have h3:=hRt exS
 rw [hX] at h3
 have h4:AC EN5 Tryz.prog 14 [.agg [.c (.slice none 0 0)]] (.c (.bool false)):=by
  have h5:=hRt (zA2 [])
  rw [show docY lit ((zA2 []).f 0).l=false from rfl] at h5
  exact AC.arg6 (.cons (.agg (.cons (.nil _) .nil)) .nil) h5
 refine zM 115 Tryz.func9 rfl rfl rfl rfl ?_
 intro s w he
 repeat' (first
|refine zA ?_
|refine zB ?_
|refine zH ?_
|apply aw_1
 conv=>whnf
 refine ⟨?_,trivial⟩
|apply zQ rfl rfl
 . conv=>lhs;whnf
 . conv=>lhs;whnf
 . first | exact bT1 ‹_› | exact bT2 ‹_›
|apply zO rfl rfl
 . conv=>lhs;whnf
 . conv=>lhs;whnf
 . first | exact bF1 ‹_› | exact bF2 ‹_›
|apply s_1
 conv=>whnf;arg 1;arg 4;arg 3;whnf
 refine ⟨?_,?_⟩
|apply zY rfl
 . conv=>lhs;whnf
 . conv=>lhs;whnf
 . first | exact h1 | exact h2 | exact h3 | exact h4
|apply zT rfl rfl rfl
 . conv=>lhs;whnf
 . conv=>lhs;whnf;arg 1;whnf
 . conv=>lhs;whnf;arg 1;whnf
 . exact ⟨by kernel_rfl,by kernel_rfl⟩
 . rfl
|apply zD rfl
 . conv=>lhs;whnf
 . conv=>lhs;whnf
 . first | rfl | assumption
 . conv=>lhs;whnf;arg 2;whnf
|apply zX rfl
 . conv=>lhs;whnf
 . conv=>lhs;whnf
 . first | rfl | assumption
 . conv=>lhs;whnf
 . first | exact h1 | exact h2 | exact h3 | exact h4
|apply zV rfl
 . conv=>lhs;whnf
 . conv=>lhs;whnf
 . first | rfl | assumption
|apply zC rfl
 . conv=>lhs;whnf
 . conv=>lhs;whnf
 . conv=>lhs;whnf;arg 2;whnf
|refine zE ?_
|refine ⟨_,by conv=>lhs;whnf;arg 2;whnf,?_⟩;conv=>rhs;whnf
|exact trivial
|intro hg)
 all_goals first
  |exact of_dec6 (by kernel_rfl)
  |exact (ff_t6 ‹_› (by kernel_rfl)).elim
  |exact cB (by kernel_rfl)
  |skip
end
section
open Go.RowKit
set_option linter.unusedSectionVars false
def wrapsI (l:List D):Nat->Nat->Bool
 |0,_=>true
 |j+1,i=>((gD l i).n==1||(gD l i).n==2) && !((gD l i).n==1&&decide (0<i)&&(gD l (i-1)).n==(gD l i).n)&&wrapsI l j (i+1)
theorem zEm (x:D) (l:List D) : ∀ (j i:Nat),wrapsI (x::l) j (i+2)=wrapsI l j (i+1)
 |0,_=>rfl
 |j+1,i=>by
  unfold wrapsI
  rw [zEm x l j (i+1)]
  have e1:gD (x::l) (i+2)=gD l (i+1):=rfl
  have e2:gD (x::l) (i+2-1)=gD l (i+1-1):=rfl
  have e3:decide (0<i+2)=decide (0<i+1):=by simp
  rw [e1,e2,e3]
theorem zGg : ∀ l:List D,wrapsI l l.length 0=zAx (l.map D.n)
 |[]=>rfl
 |[x]=>by
  show (((x.n==1||x.n==2) && !(x.n==1&&decide (0<0)&&_))&&true)=(x.n==1||x.n==2)
  simp
 |x::y::r=>by
  have ih:=zGg (y::r)
  show (((x.n==1||x.n==2) && !(x.n==1&&decide (0<0)&&_))&&wrapsI (x::y::r) (r.length+1) 1)=((x.n==1||x.n==2) && !(x.n==1&&y.n==1)&&zAx (y.n::r.map D.n))
  have e:wrapsI (x::y::r) (r.length+1) 1=(((y.n==1||y.n==2) && !(y.n==1&&true&&(x.n==y.n)))&&wrapsI (y::r) r.length 1):=by
   show (((y.n==1||y.n==2) && !(y.n==1&&true&&(x.n==y.n)))&&wrapsI (x::y::r) r.length 2)=_
   rw [zEm]
  have e2:wrapsI (y::r) (y::r).length 0=(((y.n==1||y.n==2) && !(y.n==1&&decide (0<0)&&false))&&wrapsI (y::r) r.length 1):=by
   show (((y.n==1||y.n==2) && !(y.n==1&&decide (0<0)&&_))&&wrapsI (y::r) r.length 1)=_
   simp
  rw [e]
  rw [e2] at ih
  have ih2:zAx (y.n::r.map D.n)=(((y.n==1||y.n==2) && !(y.n==1&&decide (0<0)&&false))&&wrapsI (y::r) r.length 1):=ih.symm
  rw [ih2]
  generalize wrapsI (y::r) r.length 1=q
  cases hy:(y.n==1)
  . generalize (x.n==1)=a1
    generalize (x.n==2)=a2
    generalize (y.n==2)=a3
    generalize (x.n==y.n)=a4
    cases a1<;>cases a2<;>cases a3<;>cases a4<;>cases q<;>rfl
  . have hy':y.n=1:=by simpa using hy
    rw [hy']
    generalize (x.n==1)=a1
    generalize (x.n==2)=a2
    cases a1<;>cases a2<;>cases q<;>rfl
noncomputable def HTr (d:D) (i:Nat):Vst 48:=stS 48 [(1,.bx 1 0),(16,.sl 3 (d.f 1).l),(17,.c (.int .i64 ((d.f 1).l.length:Nat))),(18,.c (.int .i64 (i:Int)))] [(1,.box 48 (cellsV Tryz.prog 12 48 d))]
end
section
open Go.RowKit
set_option linter.unusedSectionVars false
attribute [local irreducible] wpList Calls Code.wp AW AWo OpOk seqK zm zo loopK endK AC zh Yld Sub
attribute [local irreducible] ACB ACX ACE absLexG YldG absLexH
theorem zEd (s:ByteArray):AC EN5 Tryz.prog 67 [.c (.string s)] (.c (.bool (nameB s))):=by
 refine zDt (u:=.bool (nameB s)) fun σ w us hus he => ?_
 obtain ⟨rfl,hs⟩:=zDx hus
 refine ⟨fun s' w'=>rel_b,(nameP s w hs).mono ?_⟩
 rintro e w' ⟨rfl,rfl⟩
 exact ⟨rfl,Below.refl _ _⟩
theorem zIO (d:D):AC EN5 Tryz.prog 132 [.agg (cellsV Tryz.prog 12 48 d)] (.c (.bool (refR d))):=by
 refine zA1 2 (by kernel_rfl) fun hL2 => ?_
 have hl:(d.f 1).l.length<=9223372036854775807:=len_ref hL2
 clear hL2
 have hn:=zEd (d.f 0).s
 have hR:refR d=(nameB (d.f 0).s&&decide ((d.f 1).l.length<=24)&&wrapsI (d.f 1).l (d.f 1).l.length 0):=by rw [zGg];rfl
 generalize refR d=R at hR |-
 have e:decide (((d.f 1).l.length:Int)>24) = !decide ((d.f 1).l.length<=24):=by
  rw [Bool.eq_iff_iff]
  simp only [decide_eq_true_eq,Bool.not_eq_true',decide_eq_false_iff_not]
  omega
 refine zM 48 Tryz.func132 rfl rfl rfl rfl ?_
 intro s w he
 repeat' (first
|refine zA ?_
|refine zB ?_
|refine zH ?_
|apply aw_1
 conv=>whnf
 refine ⟨?_,trivial⟩
|apply zQ rfl rfl
 . conv=>lhs;whnf
 . conv=>lhs;whnf
 . first | exact bT1 ‹_› | exact bT2 ‹_›
|apply zO rfl rfl
 . conv=>lhs;whnf
 . conv=>lhs;whnf
 . first | exact bF1 ‹_› | exact bF2 ‹_›
|apply s_1
 conv=>whnf;arg 1;arg 4;arg 3;whnf
 refine ⟨?_,?_⟩
|apply zY rfl
 . conv=>lhs;whnf
 . conv=>lhs;whnf
 . first | exact hn
|apply zAF rfl rfl rfl rfl
 . conv=>lhs;whnf;arg 1;whnf
 . rfl
|apply zD rfl
 . conv=>lhs;whnf
 . conv=>lhs;whnf
 . first | rfl | assumption
 . conv=>lhs;whnf;arg 2;whnf
|apply zV rfl
 . conv=>lhs;whnf
 . conv=>lhs;whnf
 . first | rfl | assumption
|apply zC rfl
 . conv=>lhs;whnf
 . conv=>lhs;whnf
 . conv=>lhs;whnf;arg 2;whnf
|refine ze (by conv=>lhs;whnf) ?_ ?_<;>intro hb
|refine zN ?_
|refine zE ?_
|refine ⟨_,by conv=>lhs;whnf;arg 2;whnf,?_⟩;conv=>rhs;whnf
|exact trivial
|intro hg)
 . simp_all
   intros
   omega
 . have hR2:R=wrapsI (d.f 1).l (d.f 1).l.length 0:=by simp_all
   clear hR hn
   refine zf (fun j st => ∃ i,i+j=(d.f 1).l.length/\R=wrapsI (d.f 1).l j i/\Sub (cx EN5 Tryz.prog s w he) st (HTr d i)) (d.f 1).l.length ⟨0,by omega,hR2,Sub.live ⟨rfl,rfl,rfl,rfl,trivial⟩ ⟨rfl,trivial⟩⟩ ?_
   clear hR2 hg hb e
   rintro j st ⟨i,hij,hR,hs2⟩
   refine zi hs2 ?_
   clear hs2
   by_cases hi:i<(d.f 1).l.length
   . obtain ⟨j,rfl⟩ : ∃ q,j=q+1:=⟨j-1,by omega⟩
     have f1:decide ((i:Int)<((d.f 1).l.length:Nat))=true:=decide_eq_true (by omega)
     have e1:decide ((i:Int)>0)=decide (0<i):=decide_eq_decide.2 (by omega)
     have eT:((i:Int)-1).toNat=i-1:=by omega
     have hR':R=(((gD (d.f 1).l (i:Int).toNat).n==1||(gD (d.f 1).l (i:Int).toNat).n==2) && !((gD (d.f 1).l (i:Int).toNat).n==1&&decide ((i:Int)>0)&&((gD (d.f (0+1)).l ((i:Int)-1).toNat).n==(gD (d.f 1).l (i:Int).toNat).n))&&wrapsI (d.f 1).l j (i+1)):=by
      rw [hR,e1,eT,Int.toNat_natCast];rfl
     clear hR e1
     repeat' (first
|apply z7 rfl rfl rfl
 . conv=>lhs;whnf
 . first | rfl | assumption
 . conv=>lhs;whnf
 . first | exact bT1 ‹_› | exact bT2 ‹_› | rfl
|apply zx rfl rfl rfl
 . conv=>lhs;whnf
 . first | rfl | assumption
 . conv=>lhs;whnf
 . first | exact bF1 ‹_› | exact bF2 ‹_› | rfl
|apply zG
 . conv=>lhs;whnf
 . assumption
|refine zA ?_
|refine zB ?_
|refine zH ?_
|refine zW ?_
|apply aw_1
 conv=>whnf
 refine ⟨?_,trivial⟩
|apply zQ rfl rfl
 . conv=>lhs;whnf
 . conv=>lhs;whnf
 . first | exact bT1 ‹_› | exact bT2 ‹_›
|apply zO rfl rfl
 . conv=>lhs;whnf
 . conv=>lhs;whnf
 . first | exact bF1 ‹_› | exact bF2 ‹_›
|apply s_1
 conv=>whnf;arg 1;arg 4;arg 3;whnf
 refine ⟨?_,?_⟩
|apply zD rfl
 . conv=>lhs;whnf
 . conv=>lhs;whnf
 . first | rfl | assumption
 . conv=>lhs;whnf;arg 2;whnf
|apply zV rfl
 . conv=>lhs;whnf
 . conv=>lhs;whnf
 . first | rfl | assumption
|apply zC rfl
 . conv=>lhs;whnf
 . conv=>lhs;whnf
 . conv=>lhs;whnf;arg 2;whnf
|refine ze (by conv=>lhs;whnf) ?_ ?_<;>intro hb
|refine zN ?_
|refine zP ?_
|refine zg ?_
|refine zE ?_
|refine ⟨_,by conv=>lhs;whnf;arg 2;whnf,?_⟩;conv=>rhs;whnf
|exact trivial
|intro hg)
     all_goals first
      |exact zR (by omega)
      |(have h0:(i:Int)>0:=by simp_all
        exact (show 0<=(i:Int)-1/\(i:Int)-1<(((d.f 1).l.length:Nat):Int) from ⟨by omega,by omega⟩))
      |exact zr hi
      |(have h0:(i:Int)>0:=by simp_all
        exact zR (by omega))
      |(have hN:R=wrapsI (d.f 1).l j (i+1):=by simp_all
        exact zI (j':=j) (by omega) ⟨i+1,by omega,hN,Sub.live ⟨rfl,rfl,rfl,rfl,trivial⟩ ⟨rfl,trivial⟩⟩)
      |skip
     all_goals
      refine congrArg (fun b=>V.c (.bool b)) ?_
      clear eT f1 hi hij he
      simp_all
   . obtain rfl:j=0:=by omega
     have f1:decide ((i:Int)<((d.f 1).l.length:Nat))=false:=decide_eq_false (by omega)
     repeat' (first
|apply zF
 . conv=>lhs;whnf
 . assumption
|refine zA ?_
|refine zB ?_
|refine zH ?_
|apply aw_1
 conv=>whnf
 refine ⟨?_,trivial⟩
|apply s_1
 conv=>whnf;arg 1;arg 4;arg 3;whnf
 refine ⟨?_,?_⟩
|refine zL ?_
|refine zJ rfl ?_
|refine zK ?_
|refine zE ?_
|refine ⟨_,by conv=>lhs;whnf;arg 2;whnf,?_⟩;conv=>rhs;whnf
|exact trivial)
     rw [hR];rfl
 . simp_all
end
section
open Go.RowKit
set_option linter.unusedSectionVars false
theorem zDu (a b:Int):IntKind.i64.wrap (IntKind.i64.wrap a+b)=IntKind.i64.wrap (a+b):=by
 simp [IntKind.wrap,IntKind.min,IntKind.max,IntKind.bits,IntKind.signed]
 repeat' split
 all_goals omega
theorem zF2 (a b:Int):IntKind.i64.wrap (a+IntKind.i64.wrap b)=IntKind.i64.wrap (a+b):=by
 rw [Int.add_comm,zDu,Int.add_comm]
theorem zB7 (s:ByteArray) (l:List UInt8):(s.toList==(⟨l.toArray⟩:ByteArray).toList)=(s.data.toList==l):=by
 rw [Lib.toList_data,Lib.toList_data]
def zEz (k:Nat) (d:D):Int:=IntKind.i64.wrap (sizeR k d:Int)
def maxW (f:Nat->Int):Nat->Int
 |0=>0
 |n+1=>if maxW f n<f n then f n else maxW f n
def zBh:Nat->D->Int
 |0,_=>1
 |k+1,d=>IntKind.i64.wrap (maxW (fun i=>zBh k (gD (d.f 3).l i)) (d.f 3).l.length+1)
def litW (d:D):Bool:=decide (zEz (bulkD d) d<=4096)&&decide (zBh (bulkD d) d<=24)&&everyL (bulkD d) d
theorem zJO {n:Int} (h:0<=n/\n<=9223372036854775807):IntKind.i64.wrap n=n:=zEn (k:=.i64) ⟨by simp only [IntKind.min,IntKind.signed,IntKind.bits];omega,by simp only [IntKind.max,IntKind.signed,IntKind.bits];omega⟩
theorem maxW_eq {f:Nat->Int} {g:Nat->Nat} : ∀ {n:Nat},(∀ i,i<n->f i=(g i:Int))->maxW f n=(maxN g n:Int)
 |0,_=>rfl
 |n+1,h=>by
  have e:=maxW_eq (n:=n) fun i hi=>h i (by omega)
  unfold maxW maxN
  rw [e,h n (by omega)]
  exact max_i _ _
theorem maxN_at {g:Nat->Nat} : ∀ {n i:Nat},i<n->g i<=maxN g n
 |n+1,i,h=>by
  unfold maxN
  by_cases e:i=n
  . subst e;omega
  . have:=maxN_at (g:=g) (show i<n by omega);omega
theorem zJA : ∀ (k:Nat) (d:D),depthR k d<=24->zBh k d=(depthR k d:Int)
 |0,_,_=>rfl
 |k+1,d,h=>by
  unfold depthR at h
  unfold zBh depthR
  rw [maxW_eq (g:=fun i=>depthR k (gD (d.f 3).l i)) fun i hi=>zJA k _ (by have:=maxN_at (g:=fun i=>depthR k (gD (d.f 3).l i)) hi;omega)]
  rw [zJO ⟨by omega,by omega⟩]
  omega
theorem lit_W {d:D} (h:litR d=true):litW d=true:=by
 unfold litR at h
 simp only [Bool.and_eq_true,decide_eq_true_eq] at h
 unfold litW zEz
 rw [zJA _ _ h.1.2,zJO ⟨by omega,by omega⟩,h.2,decide_eq_true (by omega),decide_eq_true (by omega)];rfl
attribute [local irreducible] wpList Calls Code.wp AW AWo OpOk seqK zm zo loopK endK AC zh Yld Sub
attribute [local irreducible] ACB ACX ACE absLexG YldG
theorem key1U_ac (x:D):AC EN5 Tryz.prog 250 [.c (.string x.s)] (.c (.bool (!nameB x.s))):=by
 have h:=zEd x.s
 refine zM 6 Tryz.func250 rfl rfl rfl rfl ?_
 intro s w he
 repeat' (first
|refine zA ?_
|refine zB ?_
|refine zH ?_
|apply aw_1
 conv=>whnf
 refine ⟨?_,trivial⟩
|apply s_1
 conv=>whnf;arg 1;arg 4;arg 3;whnf
 refine ⟨?_,?_⟩
|apply zY rfl
 . conv=>lhs;whnf
 . conv=>lhs;whnf
 . first | exact h
|refine zE ?_
|refine ⟨_,by conv=>lhs;whnf;arg 2;whnf,?_⟩;conv=>rhs;whnf
|exact trivial)
theorem twiceU_ac (l:List D):AC EN5 Tryz.prog 251 [.sl 9 l] (.c (.bool (twiceB [] l))):=by
 refine zC7 1 fun hL2 => ?_
 have hl:l.length<=9223372036854775807:=hL2.1
 refine zDt (u:=.bool (twiceB [] l)) fun σ w us hus he => ?_
 obtain ⟨u,rfl,h⟩:=zJd hus
 rw [rel] at h
 obtain ⟨k,A,c,rfl,h1,h2,h3,h4⟩:=h
 exact ⟨fun s' w'=>rel_b,twiceP A l c w w (Below.refl _ _) ⟨k,h4.sl⟩ hl⟩
noncomputable def HSzW (l:List D) (n:Int) (i:Nat):Vst 19:=stS 19 [(3,.c (.int .i64 n)),(7,.sl 53 l),(8,.c (.int .i64 (l.length:Nat))),(9,.c (.int .i64 (i:Int)))] []
theorem zKO : ∀ (k:Nat) (d:D),Dp k d->AC EN5 Tryz.prog 209 [.agg (cellsV Tryz.prog 12 53 d)] (.c (.int .i64 (zEz k d)))
 |0,_,h=>h.elim
 |k+1,d,h=>by
  refine zA1 2 (by kernel_rfl) fun hL => ?_
  have hl:(d.f 3).l.length<=9223372036854775807:=(zA4 hL).1
  clear hL
  have ih:=fun i (hi:i<(d.f 3).l.length)=>zKO k (gD (d.f 3).l i) (h i hi)
  have hs:zEz (k+1) d=IntKind.i64.wrap ((1+sumN (fun i=>sizeR k (gD (d.f 3).l i)) (d.f 3).l.length:Nat):Int):=rfl
  refine zM 19 Tryz.func209 rfl rfl rfl rfl ?_
  intro s w he
  repeat' (first
|refine zA ?_
|refine zB ?_
|refine zH ?_
|apply aw_1
 conv=>whnf
 refine ⟨?_,trivial⟩
|apply s_1
 conv=>whnf;arg 1;arg 4;arg 3;whnf
 refine ⟨?_,?_⟩
|apply zAF rfl rfl rfl rfl
 . conv=>lhs;whnf;arg 1;whnf
 . rfl
|exact trivial)
  refine zf (fun j st => ∃ i,i+j=(d.f 3).l.length/\Sub (cx EN5 Tryz.prog s w he) st (HSzW (d.f 3).l (IntKind.i64.wrap ((1+sumN (fun i=>sizeR k (gD (d.f 3).l i)) i:Nat):Int)) i)) (d.f 3).l.length ⟨0,by omega,Sub.live ⟨rfl,rfl,rfl,rfl,trivial⟩ trivial⟩ ?_
  rintro j st ⟨i,hij,hs2⟩
  refine zi hs2 ?_
  clear hs2
  by_cases hi:i<(d.f 3).l.length
  . have f0:decide ((i:Int)<((d.f 3).l.length:Nat))=true:=decide_eq_true (by omega)
    have ih2:=ih i hi
    have hss:sumN (fun i=>sizeR k (gD (d.f 3).l i)) (i+1)=sumN (fun i=>sizeR k (gD (d.f 3).l i)) i+sizeR k (gD (d.f 3).l i):=rfl
    repeat' (first
|apply zAz (y:=.tmp _) rfl rfl rfl
 . conv=>lhs;whnf
 . conv=>lhs;whnf
|apply zG
 . conv=>lhs;whnf
 . assumption
|refine zA ?_
|refine zB ?_
|refine zH ?_
|refine zW ?_
|apply aw_1
 conv=>whnf
 refine ⟨?_,trivial⟩
|apply s_1
 conv=>whnf;arg 1;arg 4;arg 3;whnf
 refine ⟨?_,?_⟩
|apply zY rfl
 . conv=>lhs;whnf
 . conv=>lhs;whnf
 . first | exact ih2
|apply zT rfl rfl rfl
 . conv=>lhs;whnf
 . conv=>lhs;whnf;arg 1;whnf
 . conv=>lhs;whnf;arg 1;whnf
 . exact ⟨by kernel_rfl,by kernel_rfl⟩
 . rfl
|exact trivial)
    . refine zI (j':=j-1) (by omega) ⟨i+1,by omega,Sub.live ⟨?_,rfl,rfl,rfl,trivial⟩ trivial⟩
      refine congrArg (fun n=>V.c (.int .i64 n)) (?_:IntKind.i64.wrap (IntKind.i64.wrap ((1+sumN (fun i=>sizeR k (gD (d.f 3).l i)) i:Nat):Int)+zEz k (gD (d.f 3).l i))=IntKind.i64.wrap ((1+sumN (fun i=>sizeR k (gD (d.f 3).l i)) (i+1):Nat):Int))
      rw [zDu,hss]
      unfold zEz
      rw [zF2]
      congr 1
      omega
    all_goals first
     |exact zR (by omega)
     |exact ⟨by omega,by omega⟩
  . have f0:decide ((i:Int)<((d.f 3).l.length:Nat))=false:=decide_eq_false (by omega)
    repeat' (first
|apply zF
 . conv=>lhs;whnf
 . assumption
|refine zA ?_
|refine zB ?_
|refine zH ?_
|apply aw_1
 conv=>whnf
 refine ⟨?_,trivial⟩
|apply s_1
 conv=>whnf;arg 1;arg 4;arg 3;whnf
 refine ⟨?_,?_⟩
|refine zL ?_
|refine zJ rfl ?_
|refine zK ?_
|refine zE ?_
|refine ⟨_,by conv=>lhs;whnf;arg 2;whnf,?_⟩;conv=>rhs;whnf
|exact trivial)
    rw [hs,show i=(d.f 3).l.length by omega]
noncomputable def HDpW (l:List D) (n:Int) (i:Nat):Vst 20:=stS 20 [(3,.c (.int .i64 n)),(7,.sl 53 l),(8,.c (.int .i64 (l.length:Nat))),(9,.c (.int .i64 (i:Int)))] []
theorem zJB : ∀ (k:Nat) (d:D),Dp k d->AC EN5 Tryz.prog 210 [.agg (cellsV Tryz.prog 12 53 d)] (.c (.int .i64 (zBh k d)))
 |0,_,h=>h.elim
 |k+1,d,h=>by
  refine zA1 2 (by kernel_rfl) fun hL => ?_
  have hl:(d.f 3).l.length<=9223372036854775807:=(zA4 hL).1
  clear hL
  have ih:=fun i (hi:i<(d.f 3).l.length)=>zJB k (gD (d.f 3).l i) (h i hi)
  have hs:zBh (k+1) d=IntKind.i64.wrap (maxW (fun i=>zBh k (gD (d.f 3).l i)) (d.f 3).l.length+1):=rfl
  refine zM 20 Tryz.func210 rfl rfl rfl rfl ?_
  intro s w he
  repeat' (first
|refine zA ?_
|refine zB ?_
|refine zH ?_
|apply aw_1
 conv=>whnf
 refine ⟨?_,trivial⟩
|apply s_1
 conv=>whnf;arg 1;arg 4;arg 3;whnf
 refine ⟨?_,?_⟩
|apply zAF rfl rfl rfl rfl
 . conv=>lhs;whnf;arg 1;whnf
 . rfl
|exact trivial)
  refine zf (fun j st => ∃ i,i+j=(d.f 3).l.length/\Sub (cx EN5 Tryz.prog s w he) st (HDpW (d.f 3).l (maxW (fun i=>zBh k (gD (d.f 3).l i)) i) i)) (d.f 3).l.length ⟨0,by omega,Sub.live ⟨rfl,rfl,rfl,rfl,trivial⟩ trivial⟩ ?_
  rintro j st ⟨i,hij,hs2⟩
  refine zi hs2 ?_
  clear hs2
  by_cases hi:i<(d.f 3).l.length
  . have f0:decide ((i:Int)<((d.f 3).l.length:Nat))=true:=decide_eq_true (by omega)
    have ih2:=ih i hi
    repeat' (first
|apply s_max rfl rfl rfl
 . conv=>lhs;whnf;arg 1;whnf
 . conv=>lhs;whnf;arg 1;whnf
|apply zG
 . conv=>lhs;whnf
 . assumption
|refine zA ?_
|refine zB ?_
|refine zH ?_
|refine zW ?_
|apply aw_1
 conv=>whnf
 refine ⟨?_,trivial⟩
|apply s_1
 conv=>whnf;arg 1;arg 4;arg 3;whnf
 refine ⟨?_,?_⟩
|apply zY rfl
 . conv=>lhs;whnf
 . conv=>lhs;whnf
 . first | exact ih2
|apply zT rfl rfl rfl
 . conv=>lhs;whnf
 . conv=>lhs;whnf;arg 1;whnf
 . conv=>lhs;whnf;arg 1;whnf
 . exact ⟨by kernel_rfl,by kernel_rfl⟩
 . rfl
|exact trivial)
    all_goals first
     |exact zR (by omega)
     |exact ⟨by omega,by omega⟩
     |exact zI (j':=j-1) (by omega) ⟨i+1,by omega,Sub.live ⟨rfl,rfl,rfl,rfl,trivial⟩ trivial⟩
  . have f0:decide ((i:Int)<((d.f 3).l.length:Nat))=false:=decide_eq_false (by omega)
    have e:i=(d.f 3).l.length:=by omega
    subst e
    repeat' (first
|apply zAz rfl rfl rfl
 . conv=>lhs;whnf
 . conv=>lhs;whnf
|apply zF
 . conv=>lhs;whnf
 . assumption
|refine zA ?_
|refine zB ?_
|refine zH ?_
|apply aw_1
 conv=>whnf
 refine ⟨?_,trivial⟩
|apply s_1
 conv=>whnf;arg 1;arg 4;arg 3;whnf
 refine ⟨?_,?_⟩
|refine zL ?_
|refine zJ rfl ?_
|refine zK ?_
|refine zE ?_
|refine ⟨_,by conv=>lhs;whnf;arg 2;whnf,?_⟩;conv=>rhs;whnf
|exact trivial)
    rfl
end
section
open Go.RowKit
set_option linter.unusedSectionVars false
attribute [local irreducible] wpList Calls Code.wp AW AWo OpOk seqK zm zo loopK endK AC zh Yld Sub
attribute [local irreducible] ACB ACX ACE absLexG YldG
theorem nodeU_ac (d:D):AC EN5 Tryz.prog 234 [.agg (cellsV Tryz.prog 12 53 d),.c (.bool true)] (.c (.bool (nodeL d))):=by
 refine zA1 2 (by kernel_rfl) fun hL => ?_
 have hk:(d.f 4).l.length<=9223372036854775807:=(zA4 hL).2
 clear hL
 have c1:=zEd (d.f 2).s
 have c2:=twiceU_ac (d.f 4).l
 rw [twice_strs] at c2
 have c3:=zFx (d.f 4).l (fun x => !nameB x.s) hk fun i hi=>key1U_ac _
 have e:cellsV Tryz.prog 12 53 d=[.c (.int .i64 (d.f 0).n),.c (.int .i64 (d.f 1).n),.c (.string (d.f 2).s),.sl 53 (d.f 3).l,.sl 9 (d.f 4).l]:=rfl
 have hT:((d.f 2).s.toList==({ data:=#[] }:ByteArray).toList)=((d.f 2).s.data.toList==[]):=zB7 _ []
 have hT1:((d.f 2).s.toList==({ data:=#[116,114,117,101] }:ByteArray).toList)=((d.f 2).s.data.toList==[116,114,117,101]):=zB7 _ _
 have hT2:((d.f 2).s.toList==({ data:=#[102,97,108,115,101] }:ByteArray).toList)=((d.f 2).s.data.toList==[102,97,108,115,101]):=zB7 _ _
 have hT3:((d.f 2).s.toList==({ data:=#[110,117,108,108] }:ByteArray).toList)=((d.f 2).s.data.toList==[110,117,108,108]):=zB7 _ _
 unfold nodeL
 rw [e]
 by_cases h8:0<=(d.f 0).n/\(d.f 0).n<=7
 . have h9:(d.f 0).n=0\/(d.f 0).n=1\/(d.f 0).n=2\/(d.f 0).n=3\/(d.f 0).n=4\/(d.f 0).n=5\/(d.f 0).n=6\/(d.f 0).n=7:=by omega
   rcases h9 with hn | hn | hn | hn | hn | hn | hn | hn
   all_goals
    rw [hn]
    refine zM 137 Tryz.func234 rfl rfl rfl rfl ?_
    intro s w he
    repeat' (first
|apply z7 rfl rfl rfl
 . conv=>lhs;whnf
 . first | rfl | assumption
 . conv=>lhs;whnf
 . first | exact bT1 ‹_› | exact bT2 ‹_› | rfl
|apply zx rfl rfl rfl
 . conv=>lhs;whnf
 . first | rfl | assumption
 . conv=>lhs;whnf
 . first | exact bF1 ‹_› | exact bF2 ‹_› | rfl
|refine zA ?_
|refine zB ?_
|refine zH ?_
|apply aw_1
 conv=>whnf
 refine ⟨?_,trivial⟩
|apply zQ rfl rfl
 . conv=>lhs;whnf
 . conv=>lhs;whnf
 . first | exact bT1 ‹_› | exact bT2 ‹_›
|apply zO rfl rfl
 . conv=>lhs;whnf
 . conv=>lhs;whnf
 . first | exact bF1 ‹_› | exact bF2 ‹_›
|apply s_1
 conv=>whnf;arg 1;arg 4;arg 3;whnf
 refine ⟨?_,?_⟩
|apply zY rfl
 . conv=>lhs;whnf
 . conv=>lhs;whnf
 . first | exact c1 | exact c2 | exact c3
|apply zAF rfl rfl rfl rfl
 . conv=>lhs;whnf;arg 1;whnf
 . rfl
|apply zD rfl
 . conv=>lhs;whnf
 . conv=>lhs;whnf
 . first | rfl | assumption
 . conv=>lhs;whnf;arg 2;whnf
|apply zX rfl
 . conv=>lhs;whnf
 . conv=>lhs;whnf
 . first | rfl | assumption
 . conv=>lhs;whnf
 . first | exact c1 | exact c2 | exact c3
|apply zV rfl
 . conv=>lhs;whnf
 . conv=>lhs;whnf
 . first | rfl | assumption
|apply zC rfl
 . conv=>lhs;whnf
 . conv=>lhs;whnf
 . conv=>lhs;whnf;arg 2;whnf
|refine ze (by conv=>lhs;whnf) ?_ ?_<;>intro hb
|refine zN ?_
|refine zP ?_
|refine zE ?_
|refine ⟨_,by conv=>lhs;whnf;arg 2;whnf,?_⟩;conv=>rhs;whnf
|exact trivial
|intro hg)
    all_goals
     clear c1 c2 c3 he e hk
     simp only [hT,hT1,hT2,hT3] at *
     clear hT hT1 hT2 hT3
     unfold zFv
     generalize ((d.f 2).s.data.toList==[])=t at *
     generalize ((d.f 2).s.data.toList==[116,114,117,101])=t1 at *
     generalize ((d.f 2).s.data.toList==[102,97,108,115,101])=t2 at *
     generalize ((d.f 2).s.data.toList==[110,117,108,108])=t3 at *
     generalize nameB (d.f 2).s=v at *
     generalize ((d.f 4).l.any fun x => !nameB x.s)=ks at *
     generalize decide (strsR d).Nodup=y at *
     generalize (d.f 4).l.length=a at *
     generalize (d.f 3).l.length=b at *
     generalize (d.f 1).n=i at *
     refine congrArg (fun b=>V.c (.bool b)) ?_
     unfold zId
     simp_all
    all_goals try (intros;omega)
 . have q1:((d.f 0).n==1)=false:=by simp;omega
   have q2:((d.f 0).n==2)=false:=by simp;omega
   have q3:((d.f 0).n==3)=false:=by simp;omega
   have q4:((d.f 0).n==4)=false:=by simp;omega
   have q5:((d.f 0).n==5)=false:=by simp;omega
   have q0:((d.f 0).n==0)=false:=by simp;omega
   have q6:((d.f 0).n==6)=false:=by simp;omega
   have q7:((d.f 0).n==7)=false:=by simp;omega
   have g1:(((d.f 0).n==1)==false)=true:=by rw [q1];rfl
   have g2:(((d.f 0).n==2)==false)=true:=by rw [q2];rfl
   have g3:(((d.f 0).n==3)==false)=true:=by rw [q3];rfl
   have g4:(((d.f 0).n==4)==false)=true:=by rw [q4];rfl
   have g7:(((d.f 0).n==7)==false)=true:=by rw [q7];rfl
   have m5:((d.f 0).n != 5)=true:=by simp;omega
   have n5:(((d.f 0).n != 5)==true)=true:=by rw [m5];rfl
   have m6:((d.f 0).n != 6)=true:=by simp;omega
   have n6:(((d.f 0).n != 6)==true)=true:=by rw [m6];rfl
   refine zM 137 Tryz.func234 rfl rfl rfl rfl ?_
   intro s w he
   repeat' (first
|apply z7 rfl rfl rfl
 . conv=>lhs;whnf
 . first | rfl | assumption
 . conv=>lhs;whnf
 . first | exact bT1 ‹_› | exact bT2 ‹_› | rfl
|apply zx rfl rfl rfl
 . conv=>lhs;whnf
 . first | rfl | assumption
 . conv=>lhs;whnf
 . first | exact bF1 ‹_› | exact bF2 ‹_› | rfl
|apply zF
 . conv=>lhs;whnf
 . assumption
|refine zA ?_
|refine zB ?_
|refine zH ?_
|refine zW ?_
|apply aw_1
 conv=>whnf
 refine ⟨?_,trivial⟩
|apply zQ rfl rfl
 . conv=>lhs;whnf
 . conv=>lhs;whnf
 . first | exact bT1 ‹_› | exact bT2 ‹_›
|apply zO rfl rfl
 . conv=>lhs;whnf
 . conv=>lhs;whnf
 . first | exact bF1 ‹_› | exact bF2 ‹_›
|apply s_1
 conv=>whnf;arg 1;arg 4;arg 3;whnf
 refine ⟨?_,?_⟩
|apply zAF rfl rfl rfl rfl
 . conv=>lhs;whnf;arg 1;whnf
 . rfl
|apply zD rfl
 . conv=>lhs;whnf
 . conv=>lhs;whnf
 . first | rfl | assumption
 . conv=>lhs;whnf;arg 2;whnf
|apply zV rfl
 . conv=>lhs;whnf
 . conv=>lhs;whnf
 . first | rfl | assumption
|apply zC rfl
 . conv=>lhs;whnf
 . conv=>lhs;whnf
 . conv=>lhs;whnf;arg 2;whnf
|refine ze (by conv=>lhs;whnf) ?_ ?_<;>intro hb
|refine zN ?_
|refine zE ?_
|refine ⟨_,by conv=>lhs;whnf;arg 2;whnf,?_⟩;conv=>rhs;whnf
|exact trivial
|intro hg)
   all_goals
    clear c1 c2 c3 he e hk
    simp only [hT,hT1,hT2,hT3] at *
    clear hT hT1 hT2 hT3
    unfold zFv
    generalize ((d.f 2).s.data.toList==[])=t at *
    generalize ((d.f 2).s.data.toList==[116,114,117,101])=t1 at *
    generalize ((d.f 2).s.data.toList==[102,97,108,115,101])=t2 at *
    generalize ((d.f 2).s.data.toList==[110,117,108,108])=t3 at *
    generalize nameB (d.f 2).s=v at *
    generalize ((d.f 4).l.any fun x => !nameB x.s)=ks at *
    generalize decide (strsR d).Nodup=y at *
    generalize (d.f 4).l.length=a at *
    generalize (d.f 3).l.length=b at *
    generalize (d.f 1).n=i at *
    generalize (d.f 0).n=n at *
    refine congrArg (fun b=>V.c (.bool b)) ?_
    unfold zId
    simp_all
   all_goals try (intros;omega)
theorem zJx (x:D) (b:Bool) (h:AC EN5 Tryz.prog 211 [.agg (cellsV Tryz.prog 12 53 x),.c (.bool true)] (.c (.bool b))) :
 ACB EN5 Tryz.prog 236 [.agg (cellsV Tryz.prog 12 53 x),.bx (pn 0) 0] [.box 4 [.c (.bool true)]] (.c (.bool (!b))) [.box 4 [.c (.bool true)]]:=by
 refine zAZ (fn:=Tryz.f236) 8 Tryz.func236 rfl rfl ?_
 intro pas w0 w he hpp
 repeat' (first
|refine zA ?_
|refine zB ?_
|refine zH ?_
|apply aw_1
 conv=>whnf
 refine ⟨?_,trivial⟩
|apply s_1
 conv=>whnf;arg 1;arg 4;arg 3;whnf
 refine ⟨?_,?_⟩
|apply zY rfl
 . conv=>lhs;whnf
 . conv=>lhs;whnf
 . first | exact h
|apply zAF rfl rfl rfl rfl
 . conv=>lhs;whnf;arg 1;whnf
 . rfl
|refine zCM ⟨?_,?_⟩
|refine ⟨_,by conv=>lhs;whnf;arg 2;whnf,?_⟩;conv=>rhs;whnf
|exact trivial)
 exact ⟨rfl,trivial⟩
theorem zI7 : ∀ (k:Nat) (d:D),Dp k d->AC EN5 Tryz.prog 211 [.agg (cellsV Tryz.prog 12 53 d),.c (.bool true)] (.c (.bool (everyL k d)))
 |0,_,h=>h.elim
 |k+1,d,h=>by
  refine zA1 2 (by kernel_rfl) fun hL => ?_
  have hl:(d.f 3).l.length<=9223372036854775807:=(zA4 hL).1
  clear hL
  have hnode:=nodeU_ac d
  have hc:=zEB true (d.f 3).l (fun x => !everyL k x) hl fun i hi=>zJx _ _ (zI7 k _ (h i hi))
  have e:everyL (k+1) d=(nodeL d && !((d.f 3).l.any fun x => !everyL k x)):=rfl
  rw [e]
  refine zM 15 Tryz.func211 rfl rfl rfl rfl ?_
  intro s w he
  repeat' (first
|apply zEJ (m:=3) rfl
 . conv=>lhs;whnf
 . conv=>lhs;whnf
 . conv=>lhs;whnf
 . rfl
 . conv=>lhs;whnf;arg 1;whnf
 . exact fun _=>rfl
 . first | exact hc
 . exact fun _=>rfl
 . exact fun _=>rfl
 . exact fun _=>rfl
|refine zA ?_
|refine zB ?_
|refine zH ?_
|apply aw_1
 conv=>whnf
 refine ⟨?_,trivial⟩
|apply zQ rfl rfl
 . conv=>lhs;whnf
 . conv=>lhs;whnf
 . first | exact bT1 ‹_› | exact bT2 ‹_›
|apply zO rfl rfl
 . conv=>lhs;whnf
 . conv=>lhs;whnf
 . first | exact bF1 ‹_› | exact bF2 ‹_›
|apply s_1
 conv=>whnf;arg 1;arg 4;arg 3;whnf
 refine ⟨?_,?_⟩
|apply zY rfl
 . conv=>lhs;whnf
 . conv=>lhs;whnf
 . first | exact hnode
|apply zAF rfl rfl rfl rfl
 . conv=>lhs;whnf;arg 1;whnf
 . rfl
|apply zD rfl
 . conv=>lhs;whnf
 . conv=>lhs;whnf
 . first | rfl | assumption
 . conv=>lhs;whnf;arg 2;whnf
|apply zV rfl
 . conv=>lhs;whnf
 . conv=>lhs;whnf
 . first | rfl | assumption
|apply zC rfl
 . conv=>lhs;whnf
 . conv=>lhs;whnf
 . conv=>lhs;whnf;arg 2;whnf
|refine zE ?_
|refine ⟨_,by conv=>lhs;whnf;arg 2;whnf,?_⟩;conv=>rhs;whnf
|exact trivial
|intro hg)
  all_goals
   clear hnode hc he e
   generalize nodeL d=b at *
   generalize ((d.f 3).l.any fun x => !everyL k x)=c at *
   cases b
   . first
      |rfl
      |(exfalso;simp at *)
   . first
      |rfl
      |(exfalso;simp at *)
theorem litU_ac (d:D):AC EN5 Tryz.prog 182 [.agg (cellsV Tryz.prog 12 53 d)] (.c (.bool (litW d))):=by
 have h:=zBY (bulkD d) d (Nat.le_refl _)
 have h1:=zKO _ d h
 have h2:=zJB _ d h
 have h3:=zI7 _ d h
 unfold litW
 refine zM 15 Tryz.func182 rfl rfl rfl rfl ?_
 intro s w he
 repeat' (first
|refine zA ?_
|refine zB ?_
|refine zH ?_
|apply aw_1
 conv=>whnf
 refine ⟨?_,trivial⟩
|apply zQ rfl rfl
 . conv=>lhs;whnf
 . conv=>lhs;whnf
 . first | exact bT1 ‹_› | exact bT2 ‹_›
|apply zO rfl rfl
 . conv=>lhs;whnf
 . conv=>lhs;whnf
 . first | exact bF1 ‹_› | exact bF2 ‹_›
|apply s_1
 conv=>whnf;arg 1;arg 4;arg 3;whnf
 refine ⟨?_,?_⟩
|apply zY rfl
 . conv=>lhs;whnf
 . conv=>lhs;whnf
 . first | exact h1 | exact h2 | exact h3
|apply zAF rfl rfl rfl rfl
 . conv=>lhs;whnf;arg 1;whnf
 . rfl
|apply zD rfl
 . conv=>lhs;whnf
 . conv=>lhs;whnf
 . first | rfl | assumption
 . conv=>lhs;whnf;arg 2;whnf
|apply zX rfl
 . conv=>lhs;whnf
 . conv=>lhs;whnf
 . first | rfl | assumption
 . conv=>lhs;whnf
 . first | exact h1 | exact h2 | exact h3
|apply zV rfl
 . conv=>lhs;whnf
 . conv=>lhs;whnf
 . first | rfl | assumption
|apply zC rfl
 . conv=>lhs;whnf
 . conv=>lhs;whnf
 . conv=>lhs;whnf;arg 2;whnf
|refine zE ?_
|refine ⟨_,by conv=>lhs;whnf;arg 2;whnf,?_⟩;conv=>rhs;whnf
|exact trivial
|intro hg)
 all_goals
  clear h1 h2 h3 he
  refine congrArg (fun b=>V.c (.bool b)) ?_
  simp_all
  try (intros;omega)
end
section
open Go.RowKit
set_option linter.unusedSectionVars false
section
variable {lit lit':D->Bool} (h : ∀ v,lit v=true->lit' v=true)
theorem zC3 {p q:D->Bool} (h : ∀ x,p x=true->q x=true) {l:List D} (hl:l.all p=true):l.all q=true:=by
 rw [List.all_eq_true] at hl |-
 exact fun x hx=>h x (hl x hx)
include h
theorem zH2 (v:D) (hv:valY lit v=true):valY lit' v=true:=by
 unfold valY at *
 rw [Bool.and_eq_true] at *
 exact ⟨h v hv.1,hv.2⟩
theorem argY_mono (v:D) (hv:argY lit v=true):argY lit' v=true:=by
 unfold argY at *
 rw [Bool.and_eq_true] at *
 exact ⟨hv.1,zH2 h _ hv.2⟩
theorem dirY_mono (v:D) (hv:dirY lit v=true):dirY lit' v=true:=by
 unfold dirY zFy at *
 simp only [Bool.and_eq_true] at *
 exact ⟨hv.1,hv.2.1,zC3 (argY_mono h) hv.2.2⟩
theorem zC0 {l:List D} (hv:dirsY lit l=true):dirsY lit' l=true:=by
 unfold dirsY at *
 rw [Bool.and_eq_true] at *
 exact ⟨hv.1,zC3 (dirY_mono h) hv.2⟩
theorem inY_mono (v:D) (hv:inY lit v=true):inY lit' v=true:=by
 unfold inY at *
 simp only [Bool.and_eq_true] at *
 exact ⟨⟨⟨hv.1.1.1,zC0 h hv.1.1.2⟩,zH2 h _ hv.1.2⟩,hv.2⟩
theorem zIt {l:List D} (hv:insY lit l=true):insY lit' l=true:=by
 unfold insY at *
 rw [Bool.and_eq_true] at *
 exact ⟨hv.1,zC3 (inY_mono h) hv.2⟩
theorem fdY_mono (v:D) (hv:fdY lit v=true):fdY lit' v=true:=by
 unfold fdY at *
 simp only [Bool.and_eq_true] at *
 exact ⟨⟨⟨hv.1.1.1,zIt h hv.1.1.2⟩,hv.1.2⟩,zC0 h hv.2⟩
theorem mbY_mono (u:Bool) (v:D) (hv:mbY lit u v=true):mbY lit' u v=true:=by
 unfold mbY at *
 rw [Bool.and_eq_true,Bool.and_eq_true] at *
 exact ⟨⟨hv.1.1,zC0 h hv.1.2⟩,hv.2⟩
theorem defY_mono (v:D) (hv:defY lit v=true):defY lit' v=true:=by
 unfold defY fdsY mbsY at *
 simp only [Bool.and_eq_true] at *
 exact ⟨⟨⟨⟨⟨⟨hv.1.1.1.1.1.1,hv.1.1.1.1.1.2⟩,zC0 h hv.1.1.1.1.2⟩,hv.1.1.1.2⟩,⟨hv.1.1.2.1,zC3 (fdY_mono h) hv.1.1.2.2⟩⟩,⟨hv.1.2.1,zC3 (mbY_mono h _) hv.1.2.2⟩⟩,zIt h hv.2⟩
theorem docY_mono {l:List D} (hv:docY lit l=true):docY lit' l=true:=by
 unfold docY at *
 rw [Bool.and_eq_true] at *
 exact ⟨hv.1,zC3 (defY_mono h) hv.2⟩
end
theorem zE8 {s:List UInt8} {x:Nat × Int} (h:parseD s = .error x):x.2≠0:=by
 cases hs:scanT s with
 |error y =>
  rw [zE7 hs] at h
  cases h
  exact zGz (i:=x.1) hs
 |ok ts=>exact (zGJ (i:=x.1) (e:=x.2) hs h).1
theorem zDg {s:List UInt8} {q:D} (h:parseD s = .ok q) : ∃ ds,q=zA2 ds/\docY litW ds=true/\1<=ds.length/\ds.length<=64:=by
 obtain ⟨ds,h1,h2⟩:=zIU h
 refine ⟨ds,h1,docY_mono (fun v=>lit_W) h2,?_⟩
 unfold docY at h2
 simp only [Bool.and_eq_true,decide_eq_true_eq] at h2
 exact h2.1
theorem exS_right:docY litW (exS.f 0).l=true:=by
 obtain ⟨ds,h1,h2,-⟩:=zDg zI6
 rw [h1];exact h2
attribute [local irreducible] wpList Calls Code.wp
theorem zDM (d:D):AC EN5 Tryz.prog 14 [.agg (cellsV Tryz.prog 12 25 d)] (.c (.bool (docY litW (d.f 0).l))):=zIE zEd litU_ac zIO d
theorem zDC:AC EN5 Tryz.prog 9 [] (.c (.bool true)):=example_ac zDM exS_right
theorem joins6_ac (s t:List UInt8):AC EN5 Tryz.prog 7 [.c (.string (bs s)),.c (.string (bs t))] (.c (.bool true)):=by
 by_cases hs:4000<s.length
 . exact zIr zDC s t (.inl hs)
 by_cases ht:4000<t.length
 . exact zIr zDC s t (.inr ht)
 have hs:s.length<=4000:=by omega
 have ht:t.length<=4000:=by omega
 cases ha:parseD s with
 |error x=>exact zIs zDC s t hs ht (.inl (by rw [ha];exact zE8 ha))
 |ok q =>
  cases hb:parseD t with
  |error x=>exact zIs zDC s t hs ht (.inr (by rw [hb];exact zE8 hb))
  |ok p =>
   obtain ⟨da,rfl,-,na⟩:=zDg ha
   obtain ⟨db,rfl,-,nb⟩:=zDg hb
   exact joins6Ok zDC s t hs ht ha hb na nb
theorem rowJoins6 {W:World} (s t:ByteArray) (hs:s.size<=140737488351232) (ht:t.size<=140737488351232) (he:Env W):Calls Tryz.prog 7 #[.string s,.string t] W fun e W'=>e = .returned (.bool true)/\Below W.heap.size W W':=by
 have h:=joins6_ac (tx s) (tx t)
 rw [bs_tx,bs_tx] at h
 exact zCl h (relL2 (zG7 (by unfold maxLen;omega)) (zG7 (by unfold maxLen;omega))) he
end
section
open Go.RowKit
set_option linter.unusedSectionVars false
attribute [local irreducible] wpList Calls Code.wp AW AWo OpOk seqK zm zo loopK endK AC zh Yld Sub
attribute [local irreducible] ACB ACX ACE absLexG YldG absLexH
theorem zAg (s:ByteArray):AC EN Tryz.prog 72 [.c (.string s)] (.c (.bool (nameB s))):=by
 refine ac_of (r:=.bool (nameB s)) fun σ w us hus _ => ?_
 obtain ⟨rfl,hs⟩:=zDx hus
 refine ⟨trivial,(nameR s w hs).mono ?_⟩
 rintro e w' ⟨rfl,rfl⟩
 exact ⟨rfl,Below.refl _ _⟩
noncomputable def HSfW (d:D) (n:Int) (i:Nat):Vst 21:=stS 21 [(1,.bx 1 0),(3,.c (.int .i64 n)),(4,.c (.int .i64 (i:Int)))] [(1,.box 53 (cellsV Tryz.prog 12 53 d))]
theorem zIA : ∀ (k:Nat) (d:D),Dp k d->AC EN Tryz.prog 184 [.agg (cellsV Tryz.prog 12 53 d)] (.c (.int .i64 (zEz k d)))
 |0,_,h=>h.elim
 |k+1,d,h=>by
  refine zA1 2 (by kernel_rfl) fun hL => ?_
  have hl:(d.f 3).l.length<=9223372036854775807:=(zA4 hL).1
  clear hL
  have ih:=fun i (hi:i<(d.f 3).l.length)=>zIA k (gD (d.f 3).l i) (h i hi)
  have hs:zEz (k+1) d=IntKind.i64.wrap ((1+sumN (fun i=>sizeR k (gD (d.f 3).l i)) (d.f 3).l.length:Nat):Int):=rfl
  refine zM 21 Tryz.func184 rfl rfl rfl rfl ?_
  intro s w he
  repeat' (first
|refine zA ?_
|refine zB ?_
|refine zH ?_
|apply aw_1
 conv=>whnf
 refine ⟨?_,trivial⟩
|apply s_1
 conv=>whnf;arg 1;arg 4;arg 3;whnf
 refine ⟨?_,?_⟩
|apply zAF rfl rfl rfl rfl
 . conv=>lhs;whnf;arg 1;whnf
 . rfl
|exact trivial)
  refine zf (fun j st => ∃ i,i+j=(d.f 3).l.length/\Sub (cx EN Tryz.prog s w he) st (HSfW d (IntKind.i64.wrap ((1+sumN (fun i=>sizeR k (gD (d.f 3).l i)) i:Nat):Int)) i)) (d.f 3).l.length ⟨0,by omega,Sub.live ⟨rfl,rfl,rfl,trivial⟩ ⟨rfl,trivial⟩⟩ ?_
  rintro j st ⟨i,hij,hs2⟩
  refine zi hs2 ?_
  clear hs2
  by_cases hi:i<(d.f 3).l.length
  . have f0:decide ((i:Int)<((d.f 3).l.length:Nat))=true:=decide_eq_true (by omega)
    have ih2:=ih i hi
    have hss:sumN (fun i=>sizeR k (gD (d.f 3).l i)) (i+1)=sumN (fun i=>sizeR k (gD (d.f 3).l i)) i+sizeR k (gD (d.f 3).l i):=rfl
    repeat' (first
|apply zAz (y:=.tmp _) rfl rfl rfl
 . conv=>lhs;whnf
 . conv=>lhs;whnf
|apply zG
 . conv=>lhs;whnf
 . assumption
|refine zA ?_
|refine zB ?_
|refine zH ?_
|refine zW ?_
|apply aw_1
 conv=>whnf
 refine ⟨?_,trivial⟩
|apply s_1
 conv=>whnf;arg 1;arg 4;arg 3;whnf
 refine ⟨?_,?_⟩
|apply zY rfl
 . conv=>lhs;whnf
 . conv=>lhs;whnf
 . first | exact ih2
|exact trivial)
    all_goals first
     |exact zR (by omega)
     |exact zr hi
     |(refine zI (j':=j-1) (by omega) ⟨i+1,by omega,Sub.live ⟨rfl,?_,rfl,trivial⟩ ⟨rfl,trivial⟩⟩
       refine congrArg (fun n=>V.c (.int .i64 n)) (?_:IntKind.i64.wrap (IntKind.i64.wrap ((1+sumN (fun i=>sizeR k (gD (d.f 3).l i)) i:Nat):Int)+zEz k (gD (d.f 3).l i))=IntKind.i64.wrap ((1+sumN (fun i=>sizeR k (gD (d.f 3).l i)) (i+1):Nat):Int))
       rw [zDu,hss]
       unfold zEz
       rw [zF2]
       congr 1
       omega)
  . have f0:decide ((i:Int)<((d.f 3).l.length:Nat))=false:=decide_eq_false (by omega)
    repeat' (first
|apply zF
 . conv=>lhs;whnf
 . assumption
|refine zA ?_
|refine zB ?_
|refine zH ?_
|apply aw_1
 conv=>whnf
 refine ⟨?_,trivial⟩
|apply s_1
 conv=>whnf;arg 1;arg 4;arg 3;whnf
 refine ⟨?_,?_⟩
|refine zL ?_
|refine zJ rfl ?_
|refine zK ?_
|refine zE ?_
|refine ⟨_,by conv=>lhs;whnf;arg 2;whnf,?_⟩;conv=>rhs;whnf
|exact trivial)
    rw [hs,show i=(d.f 3).l.length by omega]
noncomputable def HDfW (d:D) (n:Int) (i:Nat):Vst 22:=stS 22 [(1,.bx 1 0),(3,.c (.int .i64 n)),(4,.c (.int .i64 (i:Int)))] [(1,.box 53 (cellsV Tryz.prog 12 53 d))]
theorem zGa : ∀ (k:Nat) (d:D),Dp k d->AC EN Tryz.prog 185 [.agg (cellsV Tryz.prog 12 53 d)] (.c (.int .i64 (zBh k d)))
 |0,_,h=>h.elim
 |k+1,d,h=>by
  refine zA1 2 (by kernel_rfl) fun hL => ?_
  have hl:(d.f 3).l.length<=9223372036854775807:=(zA4 hL).1
  clear hL
  have ih:=fun i (hi:i<(d.f 3).l.length)=>zGa k (gD (d.f 3).l i) (h i hi)
  have hs:zBh (k+1) d=IntKind.i64.wrap (maxW (fun i=>zBh k (gD (d.f 3).l i)) (d.f 3).l.length+1):=rfl
  refine zM 22 Tryz.func185 rfl rfl rfl rfl ?_
  intro s w he
  repeat' (first
|refine zA ?_
|refine zB ?_
|refine zH ?_
|apply aw_1
 conv=>whnf
 refine ⟨?_,trivial⟩
|apply s_1
 conv=>whnf;arg 1;arg 4;arg 3;whnf
 refine ⟨?_,?_⟩
|apply zAF rfl rfl rfl rfl
 . conv=>lhs;whnf;arg 1;whnf
 . rfl
|exact trivial)
  refine zf (fun j st => ∃ i,i+j=(d.f 3).l.length/\Sub (cx EN Tryz.prog s w he) st (HDfW d (maxW (fun i=>zBh k (gD (d.f 3).l i)) i) i)) (d.f 3).l.length ⟨0,by omega,Sub.live ⟨rfl,rfl,rfl,trivial⟩ ⟨rfl,trivial⟩⟩ ?_
  rintro j st ⟨i,hij,hs2⟩
  refine zi hs2 ?_
  clear hs2
  by_cases hi:i<(d.f 3).l.length
  . have f0:decide ((i:Int)<((d.f 3).l.length:Nat))=true:=decide_eq_true (by omega)
    have ih2:=ih i hi
    repeat' (first
|apply s_max rfl rfl rfl
 . conv=>lhs;whnf;arg 1;whnf
 . conv=>lhs;whnf;arg 1;whnf
|apply zG
 . conv=>lhs;whnf
 . assumption
|refine zA ?_
|refine zB ?_
|refine zH ?_
|refine zW ?_
|apply aw_1
 conv=>whnf
 refine ⟨?_,trivial⟩
|apply s_1
 conv=>whnf;arg 1;arg 4;arg 3;whnf
 refine ⟨?_,?_⟩
|apply zY rfl
 . conv=>lhs;whnf
 . conv=>lhs;whnf
 . first | exact ih2
|exact trivial)
    all_goals first
     |exact zR (by omega)
     |exact zr hi
     |exact zI (j':=j-1) (by omega) ⟨i+1,by omega,Sub.live ⟨rfl,rfl,rfl,trivial⟩ ⟨rfl,trivial⟩⟩
  . have f0:decide ((i:Int)<((d.f 3).l.length:Nat))=false:=decide_eq_false (by omega)
    have e:i=(d.f 3).l.length:=by omega
    subst e
    repeat' (first
|apply zAz rfl rfl rfl
 . conv=>lhs;whnf
 . conv=>lhs;whnf
|apply zF
 . conv=>lhs;whnf
 . assumption
|refine zA ?_
|refine zB ?_
|refine zH ?_
|apply aw_1
 conv=>whnf
 refine ⟨?_,trivial⟩
|apply s_1
 conv=>whnf;arg 1;arg 4;arg 3;whnf
 refine ⟨?_,?_⟩
|refine zL ?_
|refine zJ rfl ?_
|refine zK ?_
|refine zE ?_
|refine ⟨_,by conv=>lhs;whnf;arg 2;whnf,?_⟩;conv=>rhs;whnf
|exact trivial)
    rfl
def eqStU (l:List D) (i k:Nat):Bool:=(gD l i).s.toList==(gD l k).s.toList
def zHX (l:List D) (i:Nat):Nat->Nat->Bool
 |0,_=>false
 |j+1,k=>eqStU l i k||zHX l i j (k+1)
def zFr (l:List D):Nat->Nat->Bool
 |0,_=>false
 |j+1,i=>zHX l i i 0||zFr l j (i+1)
theorem zIu (l:List D) (i:Nat) : ∀ (j k:Nat),zHX l i j k=true ↔ ∃ m,k<=m/\m<k+j/\eqStU l i m=true
 |0,k=>by simp only [zHX,Bool.false_eq_true,false_iff];rintro ⟨m,h1,h2,-⟩;omega
 |j+1,k=>by
  rw [zHX,Bool.or_eq_true,zIu l i j (k+1)]
  constructor
  . rintro (h | ⟨m,h1,h2,h3⟩)
    . exact ⟨k,Nat.le_refl _,by omega,h⟩
    . exact ⟨m,by omega,by omega,h3⟩
  . rintro ⟨m,h1,h2,h3⟩
    by_cases e:m=k
    . subst e;exact .inl h3
    . exact .inr ⟨m,by omega,by omega,h3⟩
theorem zIW (l:List D) : ∀ (j i:Nat),zFr l j i=true ↔ ∃ m,i<=m/\m<i+j /\ ∃ k,k<m/\eqStU l m k=true
 |0,i=>by simp only [zFr,Bool.false_eq_true,false_iff];rintro ⟨m,h1,h2,-⟩;omega
 |j+1,i=>by
  rw [zFr,Bool.or_eq_true,zIW l j (i+1),zIu]
  constructor
  . rintro (⟨k,h1,h2,h3⟩ | ⟨m,h1,h2,h3⟩)
    . exact ⟨i,Nat.le_refl _,by omega,k,by omega,h3⟩
    . exact ⟨m,by omega,by omega,h3⟩
  . rintro ⟨m,h1,h2,k,h3,h4⟩
    by_cases e:m=i
    . subst e;exact .inl ⟨k,by omega,by omega,h4⟩
    . exact .inr ⟨m,by omega,by omega,k,h3,h4⟩
theorem outT_RU (d:D):zFr (d.f 4).l (d.f 4).l.length 0 = !decide (strsR d).Nodup:=by
 rw [Bool.eq_iff_iff,zIW,Bool.not_eq_true',decide_eq_false_iff_not]
 have hlen:(strsR d).length=(d.f 4).l.length:=by simp [strsR]
 have hg : ∀ i (h:i<(d.f 4).l.length),(strsR d)[i]'(by rw [hlen];exact h)=(gD (d.f 4).l i).s.data.toList:=fun i h=>by
  simp only [strsR,List.getElem_map]
  rw [gD,List.getD_eq_getElem?_getD,List.getElem?_eq_getElem h];rfl
 have he : ∀ i k,eqStU (d.f 4).l i k=true ↔ (gD (d.f 4).l i).s.data.toList=(gD (d.f 4).l k).s.data.toList:=fun i k=>by
  unfold eqStU;rw [Lib.toList_data,Lib.toList_data,beq_iff_eq]
 constructor
 . rintro ⟨m,-,h2,k,h3,h4⟩ hn
   have h5:=List.pairwise_iff_getElem.1 hn k m (by omega) (by omega) h3
   rw [hg k (by omega),hg m (by omega)] at h5
   exact h5 ((he m k).1 h4).symm
 . intro hn
   refine Classical.byContradiction fun hc=>hn (List.pairwise_iff_getElem.2 fun k m hk hm hkm hq=>hc ⟨m,Nat.zero_le _,by omega,k,hkm,?_⟩)
   rw [hg k (by omega),hg m (by omega)] at hq
   exact (he m k).2 hq.symm
noncomputable def HToU (l:List D) (i:Nat):Vst 25:=stS 25 [(0,.sl 9 l),(3,.c (.int .i64 (i:Int)))] []
noncomputable def HTiU (l:List D) (i k:Nat):Vst 25:=stS 25 [(0,.sl 9 l),(3,.c (.int .i64 (i:Int))),(4,.c (.int .i64 (k:Int)))] []
theorem twiceFU_ac (d:D):AC EN Tryz.prog 237 [.sl 9 (d.f 4).l] (.c (.bool (!decide (strsR d).Nodup))):=by
 refine zC7 1 fun hL2 => ?_
 have hl:(d.f 4).l.length<=9223372036854775807:=hL2.1
 clear hL2
 have hR:=outT_RU d
 generalize (!decide (strsR d).Nodup)=R at hR |-
 generalize (d.f 4).l=l at hR hl |-
 refine zM 25 Tryz.func237 rfl rfl rfl rfl ?_
 intro s w he
 repeat' (first
|refine zA ?_
|refine zB ?_
|refine zH ?_
|apply aw_1
 conv=>whnf
 refine ⟨?_,trivial⟩
|apply s_1
 conv=>whnf;arg 1;arg 4;arg 3;whnf
 refine ⟨?_,?_⟩
|exact trivial)
 refine zf (fun j st => ∃ i,i+j=l.length/\zFr l j i=R/\Sub (cx EN Tryz.prog s w he) st (HToU l i)) l.length ⟨0,by omega,hR,Sub.live ⟨rfl,rfl,trivial⟩ trivial⟩ ?_
 clear hR
 rintro j st ⟨i,hij,hR,hs2⟩
 refine zi hs2 ?_
 clear hs2
 by_cases hi:i<l.length
 . obtain ⟨j,rfl⟩ : ∃ q,j=q+1:=⟨j-1,by omega⟩
   have f1:decide ((i:Int)<(l.length:Nat))=true:=decide_eq_true (by omega)
   have hR':(zHX l i i 0||zFr l j (i+1))=R:=hR
   clear hR
   repeat' (first
|apply zG
 . conv=>lhs;whnf
 . assumption
|refine zA ?_
|refine zB ?_
|refine zH ?_
|apply aw_1
 conv=>whnf
 refine ⟨?_,trivial⟩
|apply s_1
 conv=>whnf;arg 1;arg 4;arg 3;whnf
 refine ⟨?_,?_⟩
|exact trivial)
   refine zf (fun jj st => ∃ k,k+jj=i/\(zHX l i jj k||zFr l j (i+1))=R/\Sub (cx EN Tryz.prog s w he) st (HTiU l i k)) i ⟨0,by omega,hR',Sub.live ⟨rfl,rfl,rfl,trivial⟩ trivial⟩ ?_
   clear hR'
   rintro jj st ⟨k,hk,hR,hs2⟩
   refine zi hs2 ?_
   clear hs2
   by_cases hki:k<i
   . obtain ⟨jj,rfl⟩ : ∃ q,jj=q+1:=⟨jj-1,by omega⟩
     have f2:decide ((k:Int)<(i:Int))=true:=decide_eq_true (by omega)
     have hR':(eqStU l i k||zHX l i jj (k+1)||zFr l j (i+1))=R:=hR
     have hkl:k<l.length:=by omega
     repeat' (first
|apply zG
 . conv=>lhs;whnf
 . assumption
|refine zA ?_
|refine zB ?_
|refine zH ?_
|refine zW ?_
|apply aw_1
 conv=>whnf
 refine ⟨?_,trivial⟩
|apply s_1
 conv=>whnf;arg 1;arg 4;arg 3;whnf
 refine ⟨?_,?_⟩
|apply zAN (by kernel_rfl) (by kernel_rfl)
|apply zBl
|apply zBk rfl
 . conv=>lhs;whnf
 . conv=>lhs;whnf;arg 2;whnf
|exact zn
|exact zv
|exact (1000000:Nat)
|refine ze (by conv=>lhs;whnf) ?_ ?_<;>intro hb
|refine zN ?_
|refine zP ?_
|refine zg ?_
|refine zE ?_
|refine ⟨_,by conv=>lhs;whnf;arg 2;whnf,?_⟩;conv=>rhs;whnf
|exact trivial)
     all_goals first
      |exact zR (by omega)
      |exact zr hi
      |exact zr hkl
      |skip
     . have e:eqStU l i k=true:=by assumption
       rw [<- hR',e];rfl
     . have e:eqStU l i k=false:=by assumption
       exact zI (j':=jj) (by omega) ⟨k+1,by omega,by rw [<- hR',e,Bool.false_or],Sub.live ⟨rfl,rfl,rfl,trivial⟩ trivial⟩
   . obtain rfl:jj=0:=by omega
     have f2:decide ((k:Int)<(i:Int))=false:=decide_eq_false (by omega)
     have hR':zFr l j (i+1)=R:=by rw [<- hR,zHX,Bool.false_or]
     repeat' (first
|apply zF
 . conv=>lhs;whnf
 . assumption
|refine zA ?_
|refine zB ?_
|refine zH ?_
|refine zW ?_
|apply aw_1
 conv=>whnf
 refine ⟨?_,trivial⟩
|apply s_1
 conv=>whnf;arg 1;arg 4;arg 3;whnf
 refine ⟨?_,?_⟩
|refine zL ?_
|refine zJ rfl ?_
|refine zK ?_
|exact trivial)
     all_goals first
      |exact zR (by omega)
      |exact zI (j':=j) (by omega) ⟨i+1,by omega,hR',Sub.live ⟨rfl,rfl,trivial⟩ trivial⟩
      |skip
 . obtain rfl:j=0:=by omega
   have f1:decide ((i:Int)<(l.length:Nat))=false:=decide_eq_false (by omega)
   repeat' (first
|apply zF
 . conv=>lhs;whnf
 . assumption
|refine zA ?_
|refine zB ?_
|refine zH ?_
|apply aw_1
 conv=>whnf
 refine ⟨?_,trivial⟩
|apply s_1
 conv=>whnf;arg 1;arg 4;arg 3;whnf
 refine ⟨?_,?_⟩
|refine zL ?_
|refine zJ rfl ?_
|refine zK ?_
|refine zE ?_
|refine ⟨_,by conv=>lhs;whnf;arg 2;whnf,?_⟩;conv=>rhs;whnf
|exact trivial)
   rw [<- hR];rfl
def zKe (n i:Int) (t:Bool) (a b:Nat) (x v y:Bool):Bool:=
 if n=0 then i==0&&t&&b==0&&a==0
 else if n=1 then (i==0||i==1)&&t&&b==0&&a==0
 else if n=2 then t&&b==0&&a==0
 else if n=3 then i==0&&b==0&&a==0
 else if n=4 then i==0&&b==0&&a==0&&x
 else if n=5 then i==0&&t&&a==0
 else if n=6 then i==0&&t&&a==b&&y
 else if n=7 then i==0&&b==0&&a==0&&v
 else false
theorem nodeF_KU (n i:Int) (t:Bool) (a b:Nat) (x v ks y:Bool) (hks:a=0->ks=true):(zKe n i t a b x v y&&ks)=zId n i t a b x v ks y:=by
 have h0:(a==0)=true->ks=true:=fun h=>hks (by simpa using h)
 unfold zKe zId
 by_cases n0:n=0
 . subst n0;cases ks<;>simp_all
   try ac_rfl
 by_cases n1:n=1
 . subst n1;cases ks<;>simp_all
   try ac_rfl
 by_cases n2:n=2
 . subst n2;cases ks<;>simp_all
   try ac_rfl
 by_cases n3:n=3
 . subst n3;cases ks<;>simp_all
   try ac_rfl
 by_cases n4:n=4
 . subst n4;cases ks<;>simp_all
   try ac_rfl
 by_cases n5:n=5
 . subst n5;cases ks<;>simp_all
   try ac_rfl
 by_cases n6:n=6
 . subst n6;cases ks<;>simp_all
   try ac_rfl
 by_cases n7:n=7
 . subst n7;cases ks<;>simp_all
   try ac_rfl
 have hd:decide (0<=n/\n<=7)=false:=decide_eq_false (by omega)
 rw [hd]
 simp [n0,n1,n2,n3,n4,n5,n6,n7]
def zEL (d:D):Bool:=zKe (d.f 0).n (d.f 1).n ((d.f 2).s.data.toList==[]) (d.f 4).l.length (d.f 3).l.length (zFv (d.f 2).s) (nameB (d.f 2).s) (decide (strsR d).Nodup)
theorem nodeD_LU (d:D):(zEL d && !((d.f 4).l.any fun x => !nameB x.s))=nodeL d:=
 nodeF_KU _ _ _ _ _ _ _ _ _ fun h=>by rw [List.eq_nil_of_length_eq_zero h];rfl
theorem nodeFU_ac (d:D):AC EN Tryz.prog 212 [.agg (cellsV Tryz.prog 12 53 d),.c (.bool true)] (.c (.bool (zEL d))):=by
 have h1:=zAg (d.f 2).s
 have h2:=twiceFU_ac d
 have e:cellsV Tryz.prog 12 53 d=[.c (.int .i64 (d.f 0).n),.c (.int .i64 (d.f 1).n),.c (.string (d.f 2).s),.sl 53 (d.f 3).l,.sl 9 (d.f 4).l]:=rfl
 have hT:((d.f 2).s.toList==({ data:=#[] }:ByteArray).toList)=((d.f 2).s.data.toList==[]):=zB7 _ []
 have hT1:((d.f 2).s.toList==({ data:=#[116,114,117,101] }:ByteArray).toList)=((d.f 2).s.data.toList==[116,114,117,101]):=zB7 _ _
 have hT2:((d.f 2).s.toList==({ data:=#[102,97,108,115,101] }:ByteArray).toList)=((d.f 2).s.data.toList==[102,97,108,115,101]):=zB7 _ _
 have hT3:((d.f 2).s.toList==({ data:=#[110,117,108,108] }:ByteArray).toList)=((d.f 2).s.data.toList==[110,117,108,108]):=zB7 _ _
 have z3:(((d.f 3).l.length:Int)==0)=((d.f 3).l.length==0):=by rw [Bool.eq_iff_iff];simp only [beq_iff_eq];omega
 have z4:(((d.f 4).l.length:Int)==0)=((d.f 4).l.length==0):=by rw [Bool.eq_iff_iff];simp only [beq_iff_eq];omega
 have z5:(((d.f 4).l.length:Int)==((d.f 3).l.length:Int))=((d.f 4).l.length==(d.f 3).l.length):=by rw [Bool.eq_iff_iff];simp only [beq_iff_eq];omega
 unfold zEL zKe zFv
 rw [e]
 by_cases h8:0<=(d.f 0).n/\(d.f 0).n<=7
 . have h9:(d.f 0).n=0\/(d.f 0).n=1\/(d.f 0).n=2\/(d.f 0).n=3\/(d.f 0).n=4\/(d.f 0).n=5\/(d.f 0).n=6\/(d.f 0).n=7:=by omega
   rcases h9 with hn | hn | hn | hn | hn | hn | hn | hn
   all_goals
    rw [hn]
    simp only [if_pos,if_neg,reduceIte,Int.reduceEq]
    refine zM 193 Tryz.func212 rfl rfl rfl rfl ?_
    intro s w he
    repeat' (first
|refine zA ?_
|refine zB ?_
|refine zH ?_
|apply aw_1
 conv=>whnf
 refine ⟨?_,trivial⟩
|apply zQ rfl rfl
 . conv=>lhs;whnf
 . conv=>lhs;whnf
 . first | exact bT1 ‹_› | exact bT2 ‹_›
|apply zO rfl rfl
 . conv=>lhs;whnf
 . conv=>lhs;whnf
 . first | exact bF1 ‹_› | exact bF2 ‹_›
|apply s_1
 conv=>whnf;arg 1;arg 4;arg 3;whnf
 refine ⟨?_,?_⟩
|apply zAF rfl rfl rfl rfl
 . conv=>lhs;whnf;arg 1;whnf
 . rfl
|apply zD rfl
 . conv=>lhs;whnf
 . conv=>lhs;whnf
 . first | rfl | assumption
 . conv=>lhs;whnf;arg 2;whnf
|apply zX rfl
 . conv=>lhs;whnf
 . conv=>lhs;whnf
 . first | rfl | assumption
 . conv=>lhs;whnf
 . first | exact h1 | exact h2
|apply zV rfl
 . conv=>lhs;whnf
 . conv=>lhs;whnf
 . first | rfl | assumption
|apply zC rfl
 . conv=>lhs;whnf
 . conv=>lhs;whnf
 . conv=>lhs;whnf;arg 2;whnf
|refine zN ?_
|refine zP ?_
|refine zE ?_
|refine ⟨_,by conv=>lhs;whnf;arg 2;whnf,?_⟩;conv=>rhs;whnf
|exact trivial
|intro hg)
    all_goals
     refine congrArg (fun b=>V.c (.bool b)) ?_
     clear h1 h2 he e
     simp only [hT,hT1,hT2,hT3,z3,z4,z5] at *
     clear hT hT1 hT2 hT3 z3 z4 z5
     generalize ((d.f 2).s.data.toList==[])=t at *
     generalize ((d.f 2).s.data.toList==[116,114,117,101])=t1 at *
     generalize ((d.f 2).s.data.toList==[102,97,108,115,101])=t2 at *
     generalize ((d.f 2).s.data.toList==[110,117,108,108])=t3 at *
     generalize nameB (d.f 2).s=v at *
     generalize decide (strsR d).Nodup=y at *
     generalize ((d.f 3).l.length==0)=b0 at *
     generalize ((d.f 4).l.length==0)=a0 at *
     generalize ((d.f 4).l.length==(d.f 3).l.length)=ab at *
     generalize (d.f 1).n=i at *
     simp_all
 have n0:(d.f 0).n≠0:=by omega
 have n1:(d.f 0).n≠1:=by omega
 have n2:(d.f 0).n≠2:=by omega
 have n3:(d.f 0).n≠3:=by omega
 have n4:(d.f 0).n≠4:=by omega
 have n5:(d.f 0).n≠5:=by omega
 have n6:(d.f 0).n≠6:=by omega
 have n7:(d.f 0).n≠7:=by omega
 rw [if_neg n0,if_neg n1,if_neg n2,if_neg n3,if_neg n4,if_neg n5,if_neg n6,if_neg n7]
 . have f0:((d.f 0).n==0)=false:=by simpa using n0
   have f1:((d.f 0).n==1)=false:=by simpa using n1
   have f2:((d.f 0).n==2)=false:=by simpa using n2
   have f3:((d.f 0).n==3)=false:=by simpa using n3
   have f4:((d.f 0).n==4)=false:=by simpa using n4
   have f5:((d.f 0).n==5)=false:=by simpa using n5
   have f6:((d.f 0).n==6)=false:=by simpa using n6
   have f7:((d.f 0).n==7)=false:=by simpa using n7
   refine zM 193 Tryz.func212 rfl rfl rfl rfl ?_
   intro s w he
   repeat' (first
|apply zF
 . conv=>lhs;whnf
 . assumption
|refine zA ?_
|refine zB ?_
|refine zH ?_
|refine zW ?_
|apply aw_1
 conv=>whnf
 refine ⟨?_,trivial⟩
|apply s_1
 conv=>whnf;arg 1;arg 4;arg 3;whnf
 refine ⟨?_,?_⟩
|apply zAF rfl rfl rfl rfl
 . conv=>lhs;whnf;arg 1;whnf
 . rfl
|refine zE ?_
|refine ⟨_,by conv=>lhs;whnf;arg 2;whnf,?_⟩;conv=>rhs;whnf
|exact trivial)
def zAD (p:D->Bool) (l:List D):Nat->Nat->Bool
 |0,_=>true
 |j+1,i=>p (gD l i)&&zAD p l j (i+1)
theorem zGe (p:D->Bool) (x:D) (l:List D) : ∀ (j i:Nat),zAD p (x::l) j (i+1)=zAD p l j i
 |0,_=>rfl
 |j+1,i=>by
  unfold zAD
  rw [zGe p x l j (i+1)]
  rfl
theorem zAv (p:D->Bool) : ∀ l:List D,zAD p l l.length 0=l.all p
 |[]=>rfl
 |x::r=>by
  show (p x&&zAD p (x::r) r.length 1)=(p x&&r.all p)
  rw [zGe,zAv p r]
theorem all_anyU (p:D->Bool) (l:List D):l.all p = !(l.any fun x => !p x):=by
 induction l with
 |nil=>rfl
 |cons x r ih=>simp only [List.all_cons,List.any_cons,ih,Bool.not_or,Bool.not_not]
theorem zFh (p:D->Bool) (l:List D):zAD p l l.length 0 = !(l.any fun x => !p x):=by rw [zAv,all_anyU]
noncomputable def HWkU (d:D) (i:Nat):Vst 43:=stS 43 [(1,.c (.bool true)),(2,.bx 2 0),(5,.c (.int .i64 (i:Int)))] [(2,.box 53 (cellsV Tryz.prog 12 53 d))]
noncomputable def HWiU (d:D) (i:Nat):Vst 43:=stS 43 [(1,.c (.bool true)),(2,.bx 2 0),(6,.c (.int .i64 (i:Int)))] [(2,.box 53 (cellsV Tryz.prog 12 53 d))]
theorem zF4 : ∀ (k:Nat) (d:D),Dp k d->AC EN Tryz.prog 186 [.agg (cellsV Tryz.prog 12 53 d),.c (.bool true)] (.c (.bool (everyL k d)))
 |0,_,h=>h.elim
 |k+1,d,h=>by
  refine zA1 2 (by kernel_rfl) fun hL => ?_
  have hl:(d.f 3).l.length<=9223372036854775807:=(zA4 hL).1
  have hlk:(d.f 4).l.length<=9223372036854775807:=(zA4 hL).2
  clear hL
  have ih:=fun i (hi:i<(d.f 3).l.length)=>zF4 k (gD (d.f 3).l i) (h i hi)
  have hn:=nodeFU_ac d
  have hname:=fun i (_:i<(d.f 4).l.length)=>zAg (gD (d.f 4).l i).s
  have hR:everyL (k+1) d=(zEL d&&zAD (fun x=>nameB x.s) (d.f 4).l (d.f 4).l.length 0&&zAD (everyL k) (d.f 3).l (d.f 3).l.length 0):=by
   rw [zFh,zFh,nodeD_LU];rfl
  generalize everyL (k+1) d=R at hR |-
  refine zM 43 Tryz.func186 rfl rfl rfl rfl ?_
  intro s w he
  repeat' (first
|refine zA ?_
|refine zB ?_
|refine zH ?_
|apply aw_1
 conv=>whnf
 refine ⟨?_,trivial⟩
|apply s_1
 conv=>whnf;arg 1;arg 4;arg 3;whnf
 refine ⟨?_,?_⟩
|apply zY rfl
 . conv=>lhs;whnf
 . conv=>lhs;whnf
 . first | exact hn
|apply zAF rfl rfl rfl rfl
 . conv=>lhs;whnf;arg 1;whnf
 . rfl
|refine ze (by conv=>lhs;whnf) ?_ ?_<;>intro hb
|refine zN ?_
|refine zE ?_
|refine ⟨_,by conv=>lhs;whnf;arg 2;whnf,?_⟩;conv=>rhs;whnf
|exact trivial)
  . have hb:zEL d=false:=by simpa using (by assumption:(!zEL d)=true)
    rw [hR,hb];rfl
  have hb:zEL d=true:=by simpa using (by assumption:(!zEL d)=false)
  rw [hb,Bool.true_and] at hR
  clear hb hn
  refine zf (fun j st => ∃ i,i+j=(d.f 4).l.length/\R=(zAD (fun x=>nameB x.s) (d.f 4).l j i&&zAD (everyL k) (d.f 3).l (d.f 3).l.length 0)/\Sub (cx EN Tryz.prog s w he) st (HWkU d i)) (d.f 4).l.length ⟨0,by omega,hR,Sub.live ⟨rfl,rfl,rfl,trivial⟩ ⟨rfl,trivial⟩⟩ ?_
  clear hR
  rintro j st ⟨i,hij,hR,hs2⟩
  refine zi hs2 ?_
  clear hs2
  by_cases hi:i<(d.f 4).l.length
  . obtain ⟨j,rfl⟩ : ∃ q,j=q+1:=⟨j-1,by omega⟩
    have f1:decide ((i:Int)<((d.f 4).l.length:Nat))=true:=decide_eq_true (by omega)
    have hR':R=(nameB (gD (d.f 4).l i).s&&zAD (fun x=>nameB x.s) (d.f 4).l j (i+1)&&zAD (everyL k) (d.f 3).l (d.f 3).l.length 0):=hR
    clear hR
    have hn1:=hname i hi
    repeat' (first
|apply zG
 . conv=>lhs;whnf
 . assumption
|refine zA ?_
|refine zB ?_
|refine zH ?_
|refine zW ?_
|apply aw_1
 conv=>whnf
 refine ⟨?_,trivial⟩
|apply s_1
 conv=>whnf;arg 1;arg 4;arg 3;whnf
 refine ⟨?_,?_⟩
|apply zX rfl
 . conv=>lhs;whnf
 . conv=>lhs;whnf
 . first | rfl | assumption
 . conv=>lhs;whnf
 . first | exact hn1
|refine ze (by conv=>lhs;whnf) ?_ ?_<;>intro hb
|refine zN ?_
|refine zP ?_
|refine zg ?_
|refine zE ?_
|refine ⟨_,by conv=>lhs;whnf;arg 2;whnf,?_⟩;conv=>rhs;whnf
|exact trivial)
    all_goals first
     |exact zR (by omega)
     |exact zr hi
     |(have e:nameB (gD (d.f 4).l i).s=false:=by simpa using (by assumption:(!nameB (gD (d.f 4).l i).s)=true)
       rw [hR',e];rfl)
     |(have e:nameB (gD (d.f 4).l i).s=true:=by simpa using (by assumption:(!nameB (gD (d.f 4).l i).s)=false)
       exact zI (j':=j) (by omega) ⟨i+1,by omega,by rw [hR',e,Bool.true_and],Sub.live ⟨rfl,rfl,rfl,trivial⟩ ⟨rfl,trivial⟩⟩)
     |skip
  . obtain rfl:j=0:=by omega
    have f1:decide ((i:Int)<((d.f 4).l.length:Nat))=false:=decide_eq_false (by omega)
    have hR2:R=zAD (everyL k) (d.f 3).l (d.f 3).l.length 0:=by rw [hR,zAD,Bool.true_and]
    clear hR
    repeat' (first
|apply zF
 . conv=>lhs;whnf
 . assumption
|refine zA ?_
|refine zB ?_
|refine zH ?_
|apply aw_1
 conv=>whnf
 refine ⟨?_,trivial⟩
|apply s_1
 conv=>whnf;arg 1;arg 4;arg 3;whnf
 refine ⟨?_,?_⟩
|refine zL ?_
|refine zJ rfl ?_
|refine zK ?_
|exact trivial)
    refine zf (fun j st => ∃ i,i+j=(d.f 3).l.length/\R=zAD (everyL k) (d.f 3).l j i/\Sub (cx EN Tryz.prog s w he) st (HWiU d i)) (d.f 3).l.length ⟨0,by omega,hR2,Sub.live ⟨rfl,rfl,rfl,trivial⟩ ⟨rfl,trivial⟩⟩ ?_
    clear hR2
    rintro j2 st2 ⟨i2,hij2,hR,hs2⟩
    refine zi hs2 ?_
    clear hs2
    by_cases hi2:i2<(d.f 3).l.length
    . obtain ⟨j2,rfl⟩ : ∃ q,j2=q+1:=⟨j2-1,by omega⟩
      have f2:decide ((i2:Int)<((d.f 3).l.length:Nat))=true:=decide_eq_true (by omega)
      have hR':R=(everyL k (gD (d.f 3).l i2)&&zAD (everyL k) (d.f 3).l j2 (i2+1)):=hR
      have ih2:=ih i2 hi2
      repeat' (first
|apply zG
 . conv=>lhs;whnf
 . assumption
|refine zA ?_
|refine zB ?_
|refine zH ?_
|refine zW ?_
|apply aw_1
 conv=>whnf
 refine ⟨?_,trivial⟩
|apply s_1
 conv=>whnf;arg 1;arg 4;arg 3;whnf
 refine ⟨?_,?_⟩
|apply zY rfl
 . conv=>lhs;whnf
 . conv=>lhs;whnf
 . first | exact ih2
|refine ze (by conv=>lhs;whnf) ?_ ?_<;>intro hb
|refine zN ?_
|refine zP ?_
|refine zg ?_
|refine zE ?_
|refine ⟨_,by conv=>lhs;whnf;arg 2;whnf,?_⟩;conv=>rhs;whnf
|exact trivial)
      all_goals first
       |exact zR (by omega)
       |exact zr hi2
       |(have e:everyL k (gD (d.f 3).l i2)=false:=by simpa using (by assumption:(!everyL k (gD (d.f 3).l i2))=true)
         rw [hR',e];rfl)
       |(have e:everyL k (gD (d.f 3).l i2)=true:=by simpa using (by assumption:(!everyL k (gD (d.f 3).l i2))=false)
         exact zI (j':=j2) (by omega) ⟨i2+1,by omega,by rw [hR',e,Bool.true_and],Sub.live ⟨rfl,rfl,rfl,trivial⟩ ⟨rfl,trivial⟩⟩)
       |skip
    . obtain rfl:j2=0:=by omega
      have f2:decide ((i2:Int)<((d.f 3).l.length:Nat))=false:=decide_eq_false (by omega)
      repeat' (first
|apply zF
 . conv=>lhs;whnf
 . assumption
|refine zA ?_
|refine zB ?_
|refine zH ?_
|apply aw_1
 conv=>whnf
 refine ⟨?_,trivial⟩
|apply s_1
 conv=>whnf;arg 1;arg 4;arg 3;whnf
 refine ⟨?_,?_⟩
|refine zL ?_
|refine zJ rfl ?_
|refine zK ?_
|refine zE ?_
|refine ⟨_,by conv=>lhs;whnf;arg 2;whnf,?_⟩;conv=>rhs;whnf
|exact trivial)
      rw [hR];rfl
theorem zKn (d:D):AC EN Tryz.prog 135 [.agg (cellsV Tryz.prog 12 53 d)] (.c (.bool (litW d))):=by
 have h:=zBY (bulkD d) d (Nat.le_refl _)
 have h1:=zIA _ d h
 have h2:=zGa _ d h
 have h3:=zF4 _ d h
 unfold litW
 refine zM 15 Tryz.func135 rfl rfl rfl rfl ?_
 intro s w he
 repeat' (first
|refine zA ?_
|refine zB ?_
|refine zH ?_
|apply aw_1
 conv=>whnf
 refine ⟨?_,trivial⟩
|apply zQ rfl rfl
 . conv=>lhs;whnf
 . conv=>lhs;whnf
 . first | exact bT1 ‹_› | exact bT2 ‹_›
|apply zO rfl rfl
 . conv=>lhs;whnf
 . conv=>lhs;whnf
 . first | exact bF1 ‹_› | exact bF2 ‹_›
|apply s_1
 conv=>whnf;arg 1;arg 4;arg 3;whnf
 refine ⟨?_,?_⟩
|apply zY rfl
 . conv=>lhs;whnf
 . conv=>lhs;whnf
 . first | exact h1 | exact h2 | exact h3
|apply zAF rfl rfl rfl rfl
 . conv=>lhs;whnf;arg 1;whnf
 . rfl
|apply zD rfl
 . conv=>lhs;whnf
 . conv=>lhs;whnf
 . first | rfl | assumption
 . conv=>lhs;whnf;arg 2;whnf
|apply zX rfl
 . conv=>lhs;whnf
 . conv=>lhs;whnf
 . first | rfl | assumption
 . conv=>lhs;whnf
 . first | exact h1 | exact h2 | exact h3
|apply zV rfl
 . conv=>lhs;whnf
 . conv=>lhs;whnf
 . first | rfl | assumption
|apply zC rfl
 . conv=>lhs;whnf
 . conv=>lhs;whnf
 . conv=>lhs;whnf;arg 2;whnf
|refine zE ?_
|refine ⟨_,by conv=>lhs;whnf;arg 2;whnf,?_⟩;conv=>rhs;whnf
|exact trivial
|intro hg)
 all_goals
  clear h1 h2 h3 he
  refine congrArg (fun b=>V.c (.bool b)) ?_
  simp_all
  try (intros;omega)
end
end Go.Proofs.YthppafnlnnpciaaGreatDoor
