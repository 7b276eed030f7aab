import Derived.Test.YthppafnlnnpciaaGreatDoorV39
set_option maxHeartbeats 8000000
set_option maxRecDepth 100000
set_option linter.unusedVariables false
set_option linter.unusedSimpArgs false
namespace Go.Proofs.YthppafnlnnpciaaGreatDoor
section
open Go.RowKit
set_option linter.unusedSectionVars false
def exF7:D:=.obj [.str ⟨#[120]⟩,.list [],.obj [.str ⟨#[73,110,116]⟩,.list []],.list []]
def exD7:D:=.obj [.int 1,.str ⟨#[84]⟩,.list [],.list [],.list [exF7],.list [],.list []]
def exC7:D:=.obj [.list [exD7]]
def txD7:D:=.obj [.int 3,.int 0,.str ⟨#[97]⟩,.list [],.list []]
theorem seq7t (s:ByteArray):(s.toList==s.toList)=true:=by simp
theorem seq7k (s:ByteArray) (h:((s.toList==s.toList)==true)=false):False:=by simp at h
theorem seq7f (s:ByteArray):(!(s.toList==s.toList))=false:=by simp
attribute [local irreducible] wpList Calls Code.wp AW AWo OpOk seqK zz z8 loopK endK AC zl Yld Sub
attribute [local irreducible] ACB ACX ACE absLexG YldG absLexH
noncomputable def HQDir (l:List D) (i:Nat):Vst 32:=stS 32 [(1,.sl 108 l),(2,.c (.func (.func 146) #[] #[])),(15,.sl 108 l),(16,.c (.int .i64 (l.length:Nat))),(17,.c (.int .i64 (i:Int)))] []
theorem eqSDir (l:List D) (hn:l.length<=100000000) (hg : ∀ i,i<l.length->AC EN Tryz.prog 146 [.agg (cellsV Tryz.prog 12 108 (gD l i)),.agg (cellsV Tryz.prog 12 108 (gD l i))] (.c (.bool true))):AC EN Tryz.prog 145 [.sl 108 l,.sl 108 l,.c (.func (.func 146) #[] #[])] (.c (.bool true)):=by
 have f0:=zDZ (l.length:Int)
 refine zN 32 Tryz.func145 rfl rfl rfl rfl ?_
 intro s w he
 repeat' (first
|apply zC
 . conv=>lhs;whnf
 . assumption
|refine zA ?_
|refine zB ?_
|refine zH ?_
|apply aw_1
 conv=>whnf
 refine ⟨?_,trivial⟩
|apply s_1
 conv=>whnf;arg 1;arg 4;arg 3;whnf
 refine ⟨?_,?_⟩
|exact trivial)
 refine zi (fun j st => ∃ i,i+j=l.length/\Sub (cx EN Tryz.prog s w he) st (HQDir l i)) l.length ⟨0,by omega,Sub.live ⟨rfl,rfl,rfl,rfl,rfl,trivial⟩ trivial⟩ ?_
 rintro j st ⟨i,hij,hs2⟩
 refine zg hs2 ?_
 clear hs2
 by_cases hi:i<l.length
 . have f1:decide ((i:Int)<(l.length:Nat))=true:=decide_eq_true (by omega)
   have hc:=hg i hi
   have f3:=zFv
   repeat' (first
|apply zG
 . conv=>lhs;whnf
 . assumption
|apply zC
 . conv=>lhs;whnf
 . assumption
|refine zA ?_
|refine zB ?_
|refine zH ?_
|refine zR ?_
|apply aw_1
 conv=>whnf
 refine ⟨?_,trivial⟩
|apply s_1
 conv=>whnf;arg 1;arg 4;arg 3;whnf
 refine ⟨?_,?_⟩
|apply ze rfl
 . conv=>lhs;whnf
 . conv=>lhs;whnf
 . first | exact hc
|apply zS rfl rfl rfl
 . conv=>lhs;whnf
 . conv=>lhs;whnf;arg 1;whnf
 . conv=>lhs;whnf;arg 1;whnf
 . exact ⟨by kernel_rfl,by kernel_rfl⟩
 . rfl
|exact trivial)
   all_goals first
    |exact zU (by omega)
    |exact zAI hi
    |exact zI (j':=j-1) (by omega) ⟨i+1,by omega,Sub.live ⟨rfl,rfl,rfl,rfl,rfl,trivial⟩ trivial⟩
    |skip
 . have f1:decide ((i:Int)<(l.length:Nat))=false:=decide_eq_false (by omega)
   repeat' (first
|apply zC
 . conv=>lhs;whnf
 . assumption
|refine zA ?_
|refine zB ?_
|refine zH ?_
|apply aw_1
 conv=>whnf
 refine ⟨?_,trivial⟩
|apply s_1
 conv=>whnf;arg 1;arg 4;arg 3;whnf
 refine ⟨?_,?_⟩
|refine zM ?_
|refine zK rfl ?_
|refine zJ ?_
|refine zE ?_
|refine ⟨_,by conv=>lhs;whnf;arg 2;whnf,?_⟩;conv=>rhs;whnf
|exact trivial)
noncomputable def HQInput (l:List D) (i:Nat):Vst 32:=stS 32 [(1,.sl 55 l),(2,.c (.func (.func 154) #[] #[])),(15,.sl 55 l),(16,.c (.int .i64 (l.length:Nat))),(17,.c (.int .i64 (i:Int)))] []
theorem eqSInput (l:List D) (hn:l.length<=100000000) (hg : ∀ i,i<l.length->AC EN Tryz.prog 154 [.agg (cellsV Tryz.prog 12 55 (gD l i)),.agg (cellsV Tryz.prog 12 55 (gD l i))] (.c (.bool true))):AC EN Tryz.prog 153 [.sl 55 l,.sl 55 l,.c (.func (.func 154) #[] #[])] (.c (.bool true)):=by
 have f0:=zDZ (l.length:Int)
 refine zN 32 Tryz.func153 rfl rfl rfl rfl ?_
 intro s w he
 repeat' (first
|apply zC
 . conv=>lhs;whnf
 . assumption
|refine zA ?_
|refine zB ?_
|refine zH ?_
|apply aw_1
 conv=>whnf
 refine ⟨?_,trivial⟩
|apply s_1
 conv=>whnf;arg 1;arg 4;arg 3;whnf
 refine ⟨?_,?_⟩
|exact trivial)
 refine zi (fun j st => ∃ i,i+j=l.length/\Sub (cx EN Tryz.prog s w he) st (HQInput l i)) l.length ⟨0,by omega,Sub.live ⟨rfl,rfl,rfl,rfl,rfl,trivial⟩ trivial⟩ ?_
 rintro j st ⟨i,hij,hs2⟩
 refine zg hs2 ?_
 clear hs2
 by_cases hi:i<l.length
 . have f1:decide ((i:Int)<(l.length:Nat))=true:=decide_eq_true (by omega)
   have hc:=hg i hi
   have f3:=zFv
   repeat' (first
|apply zG
 . conv=>lhs;whnf
 . assumption
|apply zC
 . conv=>lhs;whnf
 . assumption
|refine zA ?_
|refine zB ?_
|refine zH ?_
|refine zR ?_
|apply aw_1
 conv=>whnf
 refine ⟨?_,trivial⟩
|apply s_1
 conv=>whnf;arg 1;arg 4;arg 3;whnf
 refine ⟨?_,?_⟩
|apply ze rfl
 . conv=>lhs;whnf
 . conv=>lhs;whnf
 . first | exact hc
|apply zS rfl rfl rfl
 . conv=>lhs;whnf
 . conv=>lhs;whnf;arg 1;whnf
 . conv=>lhs;whnf;arg 1;whnf
 . exact ⟨by kernel_rfl,by kernel_rfl⟩
 . rfl
|exact trivial)
   all_goals first
    |exact zU (by omega)
    |exact zAI hi
    |exact zI (j':=j-1) (by omega) ⟨i+1,by omega,Sub.live ⟨rfl,rfl,rfl,rfl,rfl,trivial⟩ trivial⟩
    |skip
 . have f1:decide ((i:Int)<(l.length:Nat))=false:=decide_eq_false (by omega)
   repeat' (first
|apply zC
 . conv=>lhs;whnf
 . assumption
|refine zA ?_
|refine zB ?_
|refine zH ?_
|apply aw_1
 conv=>whnf
 refine ⟨?_,trivial⟩
|apply s_1
 conv=>whnf;arg 1;arg 4;arg 3;whnf
 refine ⟨?_,?_⟩
|refine zM ?_
|refine zK rfl ?_
|refine zJ ?_
|refine zE ?_
|refine ⟨_,by conv=>lhs;whnf;arg 2;whnf,?_⟩;conv=>rhs;whnf
|exact trivial)
noncomputable def HQMember (l:List D) (i:Nat):Vst 32:=stS 32 [(1,.sl 79 l),(2,.c (.func (.func 96) #[] #[])),(15,.sl 79 l),(16,.c (.int .i64 (l.length:Nat))),(17,.c (.int .i64 (i:Int)))] []
theorem eqSMember (l:List D) (hn:l.length<=100000000) (hg : ∀ i,i<l.length->AC EN Tryz.prog 96 [.agg (cellsV Tryz.prog 12 79 (gD l i)),.agg (cellsV Tryz.prog 12 79 (gD l i))] (.c (.bool true))):AC EN Tryz.prog 95 [.sl 79 l,.sl 79 l,.c (.func (.func 96) #[] #[])] (.c (.bool true)):=by
 have f0:=zDZ (l.length:Int)
 refine zN 32 Tryz.func95 rfl rfl rfl rfl ?_
 intro s w he
 repeat' (first
|apply zC
 . conv=>lhs;whnf
 . assumption
|refine zA ?_
|refine zB ?_
|refine zH ?_
|apply aw_1
 conv=>whnf
 refine ⟨?_,trivial⟩
|apply s_1
 conv=>whnf;arg 1;arg 4;arg 3;whnf
 refine ⟨?_,?_⟩
|exact trivial)
 refine zi (fun j st => ∃ i,i+j=l.length/\Sub (cx EN Tryz.prog s w he) st (HQMember l i)) l.length ⟨0,by omega,Sub.live ⟨rfl,rfl,rfl,rfl,rfl,trivial⟩ trivial⟩ ?_
 rintro j st ⟨i,hij,hs2⟩
 refine zg hs2 ?_
 clear hs2
 by_cases hi:i<l.length
 . have f1:decide ((i:Int)<(l.length:Nat))=true:=decide_eq_true (by omega)
   have hc:=hg i hi
   have f3:=zFv
   repeat' (first
|apply zG
 . conv=>lhs;whnf
 . assumption
|apply zC
 . conv=>lhs;whnf
 . assumption
|refine zA ?_
|refine zB ?_
|refine zH ?_
|refine zR ?_
|apply aw_1
 conv=>whnf
 refine ⟨?_,trivial⟩
|apply s_1
 conv=>whnf;arg 1;arg 4;arg 3;whnf
 refine ⟨?_,?_⟩
|apply ze rfl
 . conv=>lhs;whnf
 . conv=>lhs;whnf
 . first | exact hc
|apply zS rfl rfl rfl
 . conv=>lhs;whnf
 . conv=>lhs;whnf;arg 1;whnf
 . conv=>lhs;whnf;arg 1;whnf
 . exact ⟨by kernel_rfl,by kernel_rfl⟩
 . rfl
|exact trivial)
   all_goals first
    |exact zU (by omega)
    |exact zAI hi
    |exact zI (j':=j-1) (by omega) ⟨i+1,by omega,Sub.live ⟨rfl,rfl,rfl,rfl,rfl,trivial⟩ trivial⟩
    |skip
 . have f1:decide ((i:Int)<(l.length:Nat))=false:=decide_eq_false (by omega)
   repeat' (first
|apply zC
 . conv=>lhs;whnf
 . assumption
|refine zA ?_
|refine zB ?_
|refine zH ?_
|apply aw_1
 conv=>whnf
 refine ⟨?_,trivial⟩
|apply s_1
 conv=>whnf;arg 1;arg 4;arg 3;whnf
 refine ⟨?_,?_⟩
|refine zM ?_
|refine zK rfl ?_
|refine zJ ?_
|refine zE ?_
|refine ⟨_,by conv=>lhs;whnf;arg 2;whnf,?_⟩;conv=>rhs;whnf
|exact trivial)
noncomputable def HQField (l:List D) (i:Nat):Vst 32:=stS 32 [(1,.sl 50 l),(2,.c (.func (.func 151) #[] #[])),(15,.sl 50 l),(16,.c (.int .i64 (l.length:Nat))),(17,.c (.int .i64 (i:Int)))] []
theorem eqSField (l:List D) (hn:l.length<=100000000) (hg : ∀ i,i<l.length->AC EN Tryz.prog 151 [.agg (cellsV Tryz.prog 12 50 (gD l i)),.agg (cellsV Tryz.prog 12 50 (gD l i))] (.c (.bool true))):AC EN Tryz.prog 150 [.sl 50 l,.sl 50 l,.c (.func (.func 151) #[] #[])] (.c (.bool true)):=by
 have f0:=zDZ (l.length:Int)
 refine zN 32 Tryz.func150 rfl rfl rfl rfl ?_
 intro s w he
 repeat' (first
|apply zC
 . conv=>lhs;whnf
 . assumption
|refine zA ?_
|refine zB ?_
|refine zH ?_
|apply aw_1
 conv=>whnf
 refine ⟨?_,trivial⟩
|apply s_1
 conv=>whnf;arg 1;arg 4;arg 3;whnf
 refine ⟨?_,?_⟩
|exact trivial)
 refine zi (fun j st => ∃ i,i+j=l.length/\Sub (cx EN Tryz.prog s w he) st (HQField l i)) l.length ⟨0,by omega,Sub.live ⟨rfl,rfl,rfl,rfl,rfl,trivial⟩ trivial⟩ ?_
 rintro j st ⟨i,hij,hs2⟩
 refine zg hs2 ?_
 clear hs2
 by_cases hi:i<l.length
 . have f1:decide ((i:Int)<(l.length:Nat))=true:=decide_eq_true (by omega)
   have hc:=hg i hi
   have f3:=zFv
   repeat' (first
|apply zG
 . conv=>lhs;whnf
 . assumption
|apply zC
 . conv=>lhs;whnf
 . assumption
|refine zA ?_
|refine zB ?_
|refine zH ?_
|refine zR ?_
|apply aw_1
 conv=>whnf
 refine ⟨?_,trivial⟩
|apply s_1
 conv=>whnf;arg 1;arg 4;arg 3;whnf
 refine ⟨?_,?_⟩
|apply ze rfl
 . conv=>lhs;whnf
 . conv=>lhs;whnf
 . first | exact hc
|apply zS rfl rfl rfl
 . conv=>lhs;whnf
 . conv=>lhs;whnf;arg 1;whnf
 . conv=>lhs;whnf;arg 1;whnf
 . exact ⟨by kernel_rfl,by kernel_rfl⟩
 . rfl
|exact trivial)
   all_goals first
    |exact zU (by omega)
    |exact zAI hi
    |exact zI (j':=j-1) (by omega) ⟨i+1,by omega,Sub.live ⟨rfl,rfl,rfl,rfl,rfl,trivial⟩ trivial⟩
    |skip
 . have f1:decide ((i:Int)<(l.length:Nat))=false:=decide_eq_false (by omega)
   repeat' (first
|apply zC
 . conv=>lhs;whnf
 . assumption
|refine zA ?_
|refine zB ?_
|refine zH ?_
|apply aw_1
 conv=>whnf
 refine ⟨?_,trivial⟩
|apply s_1
 conv=>whnf;arg 1;arg 4;arg 3;whnf
 refine ⟨?_,?_⟩
|refine zM ?_
|refine zK rfl ?_
|refine zJ ?_
|refine zE ?_
|refine ⟨_,by conv=>lhs;whnf;arg 2;whnf,?_⟩;conv=>rhs;whnf
|exact trivial)
noncomputable def HQDef (l:List D) (i:Nat):Vst 32:=stS 32 [(1,.sl 45 l),(2,.c (.func (.func 90) #[] #[])),(15,.sl 45 l),(16,.c (.int .i64 (l.length:Nat))),(17,.c (.int .i64 (i:Int)))] []
theorem eqSDef (l:List D) (hn:l.length<=100000000) (hg : ∀ i,i<l.length->AC EN Tryz.prog 90 [.agg (cellsV Tryz.prog 12 45 (gD l i)),.agg (cellsV Tryz.prog 12 45 (gD l i))] (.c (.bool true))):AC EN Tryz.prog 89 [.sl 45 l,.sl 45 l,.c (.func (.func 90) #[] #[])] (.c (.bool true)):=by
 have f0:=zDZ (l.length:Int)
 refine zN 32 Tryz.func89 rfl rfl rfl rfl ?_
 intro s w he
 repeat' (first
|apply zC
 . conv=>lhs;whnf
 . assumption
|refine zA ?_
|refine zB ?_
|refine zH ?_
|apply aw_1
 conv=>whnf
 refine ⟨?_,trivial⟩
|apply s_1
 conv=>whnf;arg 1;arg 4;arg 3;whnf
 refine ⟨?_,?_⟩
|exact trivial)
 refine zi (fun j st => ∃ i,i+j=l.length/\Sub (cx EN Tryz.prog s w he) st (HQDef l i)) l.length ⟨0,by omega,Sub.live ⟨rfl,rfl,rfl,rfl,rfl,trivial⟩ trivial⟩ ?_
 rintro j st ⟨i,hij,hs2⟩
 refine zg hs2 ?_
 clear hs2
 by_cases hi:i<l.length
 . have f1:decide ((i:Int)<(l.length:Nat))=true:=decide_eq_true (by omega)
   have hc:=hg i hi
   have f3:=zFv
   repeat' (first
|apply zG
 . conv=>lhs;whnf
 . assumption
|apply zC
 . conv=>lhs;whnf
 . assumption
|refine zA ?_
|refine zB ?_
|refine zH ?_
|refine zR ?_
|apply aw_1
 conv=>whnf
 refine ⟨?_,trivial⟩
|apply s_1
 conv=>whnf;arg 1;arg 4;arg 3;whnf
 refine ⟨?_,?_⟩
|apply ze rfl
 . conv=>lhs;whnf
 . conv=>lhs;whnf
 . first | exact hc
|apply zS rfl rfl rfl
 . conv=>lhs;whnf
 . conv=>lhs;whnf;arg 1;whnf
 . conv=>lhs;whnf;arg 1;whnf
 . exact ⟨by kernel_rfl,by kernel_rfl⟩
 . rfl
|exact trivial)
   all_goals first
    |exact zU (by omega)
    |exact zAI hi
    |exact zI (j':=j-1) (by omega) ⟨i+1,by omega,Sub.live ⟨rfl,rfl,rfl,rfl,rfl,trivial⟩ trivial⟩
    |skip
 . have f1:decide ((i:Int)<(l.length:Nat))=false:=decide_eq_false (by omega)
   repeat' (first
|apply zC
 . conv=>lhs;whnf
 . assumption
|refine zA ?_
|refine zB ?_
|refine zH ?_
|apply aw_1
 conv=>whnf
 refine ⟨?_,trivial⟩
|apply s_1
 conv=>whnf;arg 1;arg 4;arg 3;whnf
 refine ⟨?_,?_⟩
|refine zM ?_
|refine zK rfl ?_
|refine zJ ?_
|refine zE ?_
|refine ⟨_,by conv=>lhs;whnf;arg 2;whnf,?_⟩;conv=>rhs;whnf
|exact trivial)
noncomputable def HeqNStr (l:List D) (i:Nat):Vst 26:=stS 26 [(0,.sl 9 l),(1,.sl 9 l),(11,.sl 9 l),(12,.c (.int .i64 (l.length:Nat))),(13,.c (.int .i64 (i:Int)))] []
theorem eqNStr (l:List D) (hn:l.length<=100000000):AC EN Tryz.prog 91 [.sl 9 l,.sl 9 l] (.c (.bool true)):=by
 have f0:=zDZ (l.length:Int)
 refine zN 26 Tryz.func91 rfl rfl rfl rfl ?_
 intro s w he
 repeat' (first
|apply zC
 . conv=>lhs;whnf
 . assumption
|refine zA ?_
|refine zB ?_
|refine zH ?_
|apply aw_1
 conv=>whnf
 refine ⟨?_,trivial⟩
|apply s_1
 conv=>whnf;arg 1;arg 4;arg 3;whnf
 refine ⟨?_,?_⟩
|exact trivial)
 refine zi (fun j st => ∃ i,i+j=l.length/\Sub (cx EN Tryz.prog s w he) st (HeqNStr l i)) l.length ⟨0,by omega,Sub.live ⟨rfl,rfl,rfl,rfl,rfl,trivial⟩ trivial⟩ ?_
 rintro j st ⟨i,hij,hs2⟩
 refine zg hs2 ?_
 clear hs2
 by_cases hi:i<l.length
 . have f1:decide ((i:Int)<(l.length:Nat))=true:=decide_eq_true (by omega)
   have f3:=eqs_f (gD l i).s
   repeat' (first
|apply zG
 . conv=>lhs;whnf
 . assumption
|apply zC
 . conv=>lhs;whnf
 . assumption
|refine zA ?_
|refine zB ?_
|refine zH ?_
|refine zR ?_
|apply aw_1
 conv=>whnf
 refine ⟨?_,trivial⟩
|apply s_1
 conv=>whnf;arg 1;arg 4;arg 3;whnf
 refine ⟨?_,?_⟩
|apply zAF (by kernel_rfl) (by kernel_rfl)
|apply zAs
|apply zAr rfl
 . conv=>lhs;whnf
 . conv=>lhs;whnf;arg 2;whnf
|exact zk
|exact zv
|exact (1000000:Nat)
|exact trivial)
   all_goals first
    |exact zU (by omega)
    |exact zAI hi
    |exact zI (j':=j-1) (by omega) ⟨i+1,by omega,Sub.live ⟨rfl,rfl,rfl,rfl,rfl,trivial⟩ trivial⟩
    |skip
 . have f1:decide ((i:Int)<(l.length:Nat))=false:=decide_eq_false (by omega)
   repeat' (first
|apply zC
 . conv=>lhs;whnf
 . assumption
|refine zA ?_
|refine zB ?_
|refine zH ?_
|apply aw_1
 conv=>whnf
 refine ⟨?_,trivial⟩
|apply s_1
 conv=>whnf;arg 1;arg 4;arg 3;whnf
 refine ⟨?_,?_⟩
|refine zM ?_
|refine zK rfl ?_
|refine zJ ?_
|refine zE ?_
|refine ⟨_,by conv=>lhs;whnf;arg 2;whnf,?_⟩;conv=>rhs;whnf
|exact trivial)
noncomputable def HeqNInt (l:List D) (i:Nat):Vst 26:=stS 26 [(0,.sl 3 l),(1,.sl 3 l),(11,.sl 3 l),(12,.c (.int .i64 (l.length:Nat))),(13,.c (.int .i64 (i:Int)))] []
theorem eqNInt (l:List D) (hn:l.length<=100000000):AC EN Tryz.prog 190 [.sl 3 l,.sl 3 l] (.c (.bool true)):=by
 have f0:=zDZ (l.length:Int)
 refine zN 26 Tryz.func190 rfl rfl rfl rfl ?_
 intro s w he
 repeat' (first
|apply zC
 . conv=>lhs;whnf
 . assumption
|refine zA ?_
|refine zB ?_
|refine zH ?_
|apply aw_1
 conv=>whnf
 refine ⟨?_,trivial⟩
|apply s_1
 conv=>whnf;arg 1;arg 4;arg 3;whnf
 refine ⟨?_,?_⟩
|exact trivial)
 refine zi (fun j st => ∃ i,i+j=l.length/\Sub (cx EN Tryz.prog s w he) st (HeqNInt l i)) l.length ⟨0,by omega,Sub.live ⟨rfl,rfl,rfl,rfl,rfl,trivial⟩ trivial⟩ ?_
 rintro j st ⟨i,hij,hs2⟩
 refine zg hs2 ?_
 clear hs2
 by_cases hi:i<l.length
 . have f1:decide ((i:Int)<(l.length:Nat))=true:=decide_eq_true (by omega)
   have f3:=zDZ (gD l i).n
   repeat' (first
|apply zG
 . conv=>lhs;whnf
 . assumption
|apply zC
 . conv=>lhs;whnf
 . assumption
|refine zA ?_
|refine zB ?_
|refine zH ?_
|refine zR ?_
|apply aw_1
 conv=>whnf
 refine ⟨?_,trivial⟩
|apply s_1
 conv=>whnf;arg 1;arg 4;arg 3;whnf
 refine ⟨?_,?_⟩
|apply zAF (by kernel_rfl) (by kernel_rfl)
|apply zAs
|apply zAr rfl
 . conv=>lhs;whnf
 . conv=>lhs;whnf;arg 2;whnf
|exact zk
|exact zv
|exact (1000000:Nat)
|exact trivial)
   all_goals first
    |exact zU (by omega)
    |exact zAI hi
    |exact zI (j':=j-1) (by omega) ⟨i+1,by omega,Sub.live ⟨rfl,rfl,rfl,rfl,rfl,trivial⟩ trivial⟩
    |skip
 . have f1:decide ((i:Int)<(l.length:Nat))=false:=decide_eq_false (by omega)
   repeat' (first
|apply zC
 . conv=>lhs;whnf
 . assumption
|refine zA ?_
|refine zB ?_
|refine zH ?_
|apply aw_1
 conv=>whnf
 refine ⟨?_,trivial⟩
|apply s_1
 conv=>whnf;arg 1;arg 4;arg 3;whnf
 refine ⟨?_,?_⟩
|refine zM ?_
|refine zK rfl ?_
|refine zJ ?_
|refine zE ?_
|refine ⟨_,by conv=>lhs;whnf;arg 2;whnf,?_⟩;conv=>rhs;whnf
|exact trivial)
theorem sdN:AC EN Tryz.prog 92 [.sl 108 [],.sl 108 []] (.c (.bool true)):=by
 have h1:=eqSDir [] (by decide) (fun i hi=>absurd hi (Nat.not_lt_zero _))
 refine zN 8 Tryz.func92 rfl rfl rfl rfl ?_
 intro s w he
 repeat' (first
|refine zA ?_
|refine zB ?_
|refine zH ?_
|apply aw_1
 conv=>whnf
 refine ⟨?_,trivial⟩
|apply s_1
 conv=>whnf;arg 1;arg 4;arg 3;whnf
 refine ⟨?_,?_⟩
|apply ze rfl
 . conv=>lhs;whnf
 . conv=>lhs;whnf
 . first | exact h1
|refine zE ?_
|refine ⟨_,by conv=>lhs;whnf;arg 2;whnf,?_⟩;conv=>rhs;whnf
|exact trivial)
 all_goals first
  |exact zU (by decide)
  |rfl
  |exact (show Tryz.prog.underlying 4=some TypeDesc.bool by kernel_rfl)
  |skip
theorem siN:AC EN Tryz.prog 94 [.sl 55 [],.sl 55 []] (.c (.bool true)):=by
 have h1:=eqSInput [] (by decide) (fun i hi=>absurd hi (Nat.not_lt_zero _))
 refine zN 8 Tryz.func94 rfl rfl rfl rfl ?_
 intro s w he
 repeat' (first
|refine zA ?_
|refine zB ?_
|refine zH ?_
|apply aw_1
 conv=>whnf
 refine ⟨?_,trivial⟩
|apply s_1
 conv=>whnf;arg 1;arg 4;arg 3;whnf
 refine ⟨?_,?_⟩
|apply ze rfl
 . conv=>lhs;whnf
 . conv=>lhs;whnf
 . first | exact h1
|refine zE ?_
|refine ⟨_,by conv=>lhs;whnf;arg 2;whnf,?_⟩;conv=>rhs;whnf
|exact trivial)
 all_goals first
  |exact zU (by decide)
  |rfl
  |exact (show Tryz.prog.underlying 4=some TypeDesc.bool by kernel_rfl)
  |skip
theorem srN:AC EN Tryz.prog 152 [.agg (cellsV Tryz.prog 12 48 (exF7.f 2)),.agg (cellsV Tryz.prog 12 48 (exF7.f 2))] (.c (.bool true)):=by
 have h1:=eqNInt ((exF7.f 2).f 1).l (by decide)
 have h0:=seq7t ((exF7.f 2).f 0).s
 have k1:=seq7k ((exF7.f 2).f 0).s
 refine zN 17 Tryz.func152 rfl rfl rfl rfl ?_
 intro s w he
 repeat' (first
|exact (k1 ‹_›).elim
|refine zA ?_
|refine zB ?_
|refine zH ?_
|apply aw_1
 conv=>whnf
 refine ⟨?_,trivial⟩
|apply zq rfl rfl
 . conv=>lhs;whnf
 . conv=>lhs;whnf
 . first | exact bT1 ‹_› | exact bT2 ‹_›
|apply s_1
 conv=>whnf;arg 1;arg 4;arg 3;whnf
 refine ⟨?_,?_⟩
|apply zAL rfl rfl rfl rfl
 . conv=>lhs;whnf;arg 1;whnf
 . rfl
|apply zL rfl
 . conv=>lhs;whnf
 . conv=>lhs;whnf
 . first | rfl | assumption
 . conv=>lhs;whnf;arg 2;whnf
|apply zY rfl
 . conv=>lhs;whnf
 . conv=>lhs;whnf
 . first | rfl | assumption
 . conv=>lhs;whnf
 . first | exact h1
|apply zF rfl
 . conv=>lhs;whnf
 . conv=>lhs;whnf
 . conv=>lhs;whnf;arg 2;whnf
|refine zE ?_
|refine ⟨_,by conv=>lhs;whnf;arg 2;whnf,?_⟩;conv=>rhs;whnf
|exact trivial
|intro hg)
 all_goals first
  |exact zU (by decide)
  |rfl
  |exact (show Tryz.prog.underlying 4=some TypeDesc.bool by kernel_rfl)
  |skip
theorem sfC:AC EN Tryz.prog 151 [.agg (cellsV Tryz.prog 12 50 exF7),.agg (cellsV Tryz.prog 12 50 exF7)] (.c (.bool true)):=by
 have h0:=seq7t (exF7.f 0).s
 have k1:=seq7k (exF7.f 0).s
 refine zN 31 Tryz.func151 rfl rfl rfl rfl ?_
 intro s w he
 repeat' (first
|exact (k1 ‹_›).elim
|refine zA ?_
|refine zB ?_
|refine zH ?_
|apply aw_1
 conv=>whnf
 refine ⟨?_,trivial⟩
|apply zq rfl rfl
 . conv=>lhs;whnf
 . conv=>lhs;whnf
 . first | exact bT1 ‹_› | exact bT2 ‹_›
|apply s_1
 conv=>whnf;arg 1;arg 4;arg 3;whnf
 refine ⟨?_,?_⟩
|apply zAL rfl rfl rfl rfl
 . conv=>lhs;whnf;arg 1;whnf
 . rfl
|apply zL rfl
 . conv=>lhs;whnf
 . conv=>lhs;whnf
 . first | rfl | assumption
 . conv=>lhs;whnf;arg 2;whnf
|apply zY rfl
 . conv=>lhs;whnf
 . conv=>lhs;whnf
 . first | rfl | assumption
 . conv=>lhs;whnf
 . first | exact srN | exact siN | exact sdN
|apply zF rfl
 . conv=>lhs;whnf
 . conv=>lhs;whnf
 . conv=>lhs;whnf;arg 2;whnf
|refine zE ?_
|refine ⟨_,by conv=>lhs;whnf;arg 2;whnf,?_⟩;conv=>rhs;whnf
|exact trivial
|intro hg)
 all_goals first
  |exact zU (by decide)
  |rfl
  |exact (show Tryz.prog.underlying 4=some TypeDesc.bool by kernel_rfl)
  |skip
theorem sfL:AC EN Tryz.prog 93 [.sl 50 [exF7],.sl 50 [exF7]] (.c (.bool true)):=by
 have h1:=eqSField [exF7] (by decide) (fun i hi=>by
  have e:i=0:=by have:i<1:=hi;omega
  subst e
  exact sfC)
 refine zN 8 Tryz.func93 rfl rfl rfl rfl ?_
 intro s w he
 repeat' (first
|refine zA ?_
|refine zB ?_
|refine zH ?_
|apply aw_1
 conv=>whnf
 refine ⟨?_,trivial⟩
|apply s_1
 conv=>whnf;arg 1;arg 4;arg 3;whnf
 refine ⟨?_,?_⟩
|apply ze rfl
 . conv=>lhs;whnf
 . conv=>lhs;whnf
 . first | exact h1
|refine zE ?_
|refine ⟨_,by conv=>lhs;whnf;arg 2;whnf,?_⟩;conv=>rhs;whnf
|exact trivial)
 all_goals first
  |exact zU (by decide)
  |rfl
  |exact (show Tryz.prog.underlying 4=some TypeDesc.bool by kernel_rfl)
  |skip
theorem sdC:AC EN Tryz.prog 90 [.agg (cellsV Tryz.prog 12 45 exD7),.agg (cellsV Tryz.prog 12 45 exD7)] (.c (.bool true)):=by
 have h0:=zDZ (exD7.f 0).n
 have h1:=seq7f (exD7.f 1).s
 have k1:=zJW (exD7.f 1).s
 have k2:=eqn_k (exD7.f 0).n
 have h2:=eqNStr (exD7.f 2).l (by decide)
 have h3:=eqSMember [] (by decide) (fun i hi=>absurd hi (Nat.not_lt_zero _))
 have f3:=zFv
 refine zN 52 Tryz.func90 rfl rfl rfl rfl ?_
 intro s w he
 repeat' (first
|apply zC
 . conv=>lhs;whnf
 . assumption
|exact (k1 ‹_›).elim
|refine zA ?_
|refine zB ?_
|refine zH ?_
|apply aw_1
 conv=>whnf
 refine ⟨?_,trivial⟩
|apply zq rfl rfl
 . conv=>lhs;whnf
 . conv=>lhs;whnf
 . first | exact bT1 ‹_› | exact bT2 ‹_›
|apply za rfl rfl
 . conv=>lhs;whnf
 . conv=>lhs;whnf
 . first | exact bF1 ‹_› | exact bF2 ‹_›
|apply s_1
 conv=>whnf;arg 1;arg 4;arg 3;whnf
 refine ⟨?_,?_⟩
|apply ze rfl
 . conv=>lhs;whnf
 . conv=>lhs;whnf
 . first | exact h2 | exact sdN | exact sfL | exact siN | exact h3
|apply zAL rfl rfl rfl rfl
 . conv=>lhs;whnf;arg 1;whnf
 . rfl
|apply zL rfl
 . conv=>lhs;whnf
 . conv=>lhs;whnf
 . first | rfl | assumption
 . conv=>lhs;whnf;arg 2;whnf
|apply zY rfl
 . conv=>lhs;whnf
 . conv=>lhs;whnf
 . first | rfl | assumption
 . conv=>lhs;whnf
 . first | exact h2 | exact sdN | exact sfL | exact siN | exact h3
|apply zF rfl
 . conv=>lhs;whnf
 . conv=>lhs;whnf
 . conv=>lhs;whnf;arg 2;whnf
|refine zE ?_
|refine ⟨_,by conv=>lhs;whnf;arg 2;whnf,?_⟩;conv=>rhs;whnf
|exact trivial
|intro hg)
 all_goals first
  |exact zU (by decide)
  |rfl
  |exact (show Tryz.prog.underlying 4=some TypeDesc.bool by kernel_rfl)
  |skip
theorem sameEx:AC EN Tryz.prog 40 [.agg (cellsV Tryz.prog 12 25 exC7),.agg (cellsV Tryz.prog 12 25 exC7)] (.c (.bool true)):=by
 have h1:=eqSDef [exD7] (by decide) (fun i hi=>by
  have e:i=0:=by have:i<1:=hi;omega
  subst e
  exact sdC)
 refine zN 10 Tryz.func40 rfl rfl rfl rfl ?_
 intro s w he
 repeat' (first
|refine zA ?_
|refine zB ?_
|refine zH ?_
|apply aw_1
 conv=>whnf
 refine ⟨?_,trivial⟩
|apply s_1
 conv=>whnf;arg 1;arg 4;arg 3;whnf
 refine ⟨?_,?_⟩
|apply ze rfl
 . conv=>lhs;whnf
 . conv=>lhs;whnf
 . first | exact h1
|apply zAL rfl rfl rfl rfl
 . conv=>lhs;whnf;arg 1;whnf
 . rfl
|refine zE ?_
|refine ⟨_,by conv=>lhs;whnf;arg 2;whnf,?_⟩;conv=>rhs;whnf
|exact trivial)
 all_goals first
  |exact zU (by decide)
  |rfl
  |exact (show Tryz.prog.underlying 4=some TypeDesc.bool by kernel_rfl)
  |skip
end
section
open Go.RowKit
attribute [local irreducible] wpList Calls Code.wp
def sg0 (W:World):Sg:=⟨fun b o=>(W.cell? ⟨b,o,none⟩).isSome,fun _=>none,fun _=>none,fun _=>(undef,0)⟩
theorem zGh {P:Program} {w:World} {n:String} {g:Nat} {cs:Array Value} (hg:P.globalNamed n=some g) (h:w.var? P n=some cs):g+1<=w.heap.size:=by
 unfold World.var? at h
 rw [hg] at h
 simp only [Option.bind_some] at h
 rcases Nat.lt_or_ge g w.heap.size with h' | h'
 . exact h'
 . rw [Array.getElem?_eq_none h'] at h;cases h
theorem en5_of {W:World} (h:Env W):EN5.E W:=by
 obtain ⟨h1,⟨tp,p,h2⟩,⟨tp',p',h3⟩⟩:=id h
 have a1:=zGh gPow h1
 have a2:=zGh gErrR h2
 have a3:=zGh gErrS h3
 exact ⟨h,Nat.max_le.2 ⟨a1,Nat.max_le.2 ⟨a2,a3⟩⟩⟩
theorem zIe {f:FuncId} {args:List V} {W:World} {us:Array Value} (h:AC EN5 Tryz.prog f args (.c (.bool true))) (hr:relL Tryz.prog (sg0 W) W args us.toList) (he:Env W):Calls Tryz.prog f us W fun e W'=>e = .returned (.bool true)/\Below W.heap.size W W':=by
 refine (h (sg0 W) W us hr (fun b o h=>h) (en5_of he)).mono ?_
 rintro e W' ⟨v,F',rfl,hfr,-,-,-,hv⟩
 rw [rel] at hv
 obtain ⟨rfl,-⟩:=hv
 exact ⟨rfl,hfr.below⟩
theorem relL1 {P:Program} {s:Sg} {w:World} {v:V} {u:Value} (h:rel P s w v u):relL P s w [v] (#[u]:Array Value).toList:=by
 show relL P s w [v] [u]
 rw [relL];exact ⟨h,by simp [relL]⟩
end
section
open Go.RowKit
set_option linter.unusedSectionVars false
theorem exC7_right:docY litR (exC7.f 0).l=true:=by kernel_rfl
theorem exC7_wide:wideD exC7:=by
 simp [exC7,exD7,exF7,wideD,wideL,i64D]
theorem exC7_bulk:bulkD exC7<=1048576:=of_decide_eq_true (by kernel_rfl)
attribute [local irreducible] wpList Calls Code.wp AW AWo OpOk seqK zz z8 loopK endK AC zl Yld Sub
attribute [local irreducible] ACB ACX ACE absLexG YldG absLexH
theorem text7_ac:AC EN Tryz.prog 42 [.c (.string ⟨#[97]⟩)] (.agg (cellsV Tryz.prog 12 53 txD7)):=by
 refine AC.res (r:=.agg [.c (.int .i64 3),.c (.int .i64 0),.c (.string ⟨#[97]⟩),.c (.slice none 0 0),.c (.slice none 0 0)]) ?_ (VLe.agg (VLeL.cons (VLe.refl _) (VLeL.cons (VLe.refl _) (VLeL.cons (VLe.refl _) (VLeL.cons (VLe.nil _) (VLeL.cons (VLe.nil _) VLeL.nil))))))
 refine zN 5 Tryz.func42 rfl rfl rfl rfl ?_
 intro s w he
 repeat' (first
|refine zA ?_
|refine zB ?_
|refine zH ?_
|apply aw_1
 conv=>whnf
 refine ⟨?_,trivial⟩
|apply s_1
 conv=>whnf;arg 1;arg 4;arg 3;whnf
 refine ⟨?_,?_⟩
|apply zS rfl rfl rfl
 . conv=>lhs;whnf
 . conv=>lhs;whnf;arg 1;whnf
 . conv=>lhs;whnf;arg 1;whnf
 . exact ⟨by kernel_rfl,by kernel_rfl⟩
 . rfl
|refine zE ?_
|refine ⟨_,by conv=>lhs;whnf;arg 2;whnf,?_⟩;conv=>rhs;whnf
|exact trivial)
 rfl
theorem exam7_ac:AC EN Tryz.prog 20 [] (.c (.bool true)):=by
 have h1:=zGC (d:=exC7) (fun i hi=>(docP exC7_right).2.2 i hi) (fun i hi=>by
  have e:i=0:=by have:i<1:=hi;omega
  subst e
  intro k hk
  exact absurd hk (Nat.not_lt_zero _)) exC7_wide exC7_bulk
 have h2:=sameEx
 have h3:=text7_ac
 have h4:=zDi 20 txD7 (zCR 20 _ (of_decide_eq_true (by kernel_rfl))) (by simp [txD7,wideD,wideL,i64D]) (by exact ⟨fun q=>(by cases q),fun j hj=>absurd hj (Nat.not_lt_zero _)⟩) (of_decide_eq_true (by kernel_rfl))
 have e1:bs (sdlT K6 (exC7.f 0).l)=⟨#[116,121,112,101,32,84,32,123,10,32,32,120,58,32,73,110,116,10,125,10]⟩:=by kernel_rfl
 have e2:bs (valT 20 txD7)=⟨#[34,97,34]⟩:=by kernel_rfl
 rw [e1] at h1
 rw [e2] at h4
 have g1:=seq7t ⟨#[116,121,112,101,32,84,32,123,10,32,32,120,58,32,73,110,116,10,125,10]⟩
 have g2:=seq7t ⟨#[34,97,34]⟩
 have k1:=seq7k ⟨#[116,121,112,101,32,84,32,123,10,32,32,120,58,32,73,110,116,10,125,10]⟩
 refine zN 21 Tryz.func20 rfl rfl rfl rfl ?_
 intro s w he
 repeat' (first
|apply zAx (.agg (cellsV Tryz.prog 12 50 exF7)) rfl rfl
 . conv=>lhs;whnf;arg 2;whnf
 . repeat' (first | exact VLe.refl _ | exact VLe.nil _ | exact VLe.lit _ _ | exact VLe.own _ _ _ | apply VLe.agg | apply VLeL.cons | exact VLeL.nil)
|apply zAx (.agg (cellsV Tryz.prog 12 45 exD7)) rfl rfl
 . conv=>lhs;whnf;arg 2;whnf
 . repeat' (first | exact VLe.refl _ | exact VLe.nil _ | exact VLe.lit _ _ | exact VLe.own _ _ _ | apply VLe.agg | apply VLeL.cons | exact VLeL.nil)
|apply zAx (.agg (cellsV Tryz.prog 12 25 exC7)) rfl rfl
 . conv=>lhs;whnf;arg 2;whnf
 . repeat' (first | exact VLe.refl _ | exact VLe.nil _ | exact VLe.lit _ _ | exact VLe.own _ _ _ | apply VLe.agg | apply VLeL.cons | exact VLeL.nil)
|apply zEg [exF7] rfl rfl
 . conv=>lhs;whnf
 . first | (conv=>lhs;whnf;arg 1;whnf)
 . rfl
 . rfl
 . repeat' (first | exact trivial | apply And.intro | rfl)
|apply zEg [exD7] rfl rfl
 . conv=>lhs;whnf
 . first | (conv=>lhs;whnf;arg 1;whnf)
 . rfl
 . rfl
 . repeat' (first | exact trivial | apply And.intro | rfl)
|exact (k1 ‹_›).elim
|refine zA ?_
|refine zB ?_
|refine zH ?_
|apply aw_1
 conv=>whnf
 refine ⟨?_,trivial⟩
|apply zq rfl rfl
 . conv=>lhs;whnf
 . conv=>lhs;whnf
 . first | exact bT1 ‹_› | exact bT2 ‹_›
|apply s_1
 conv=>whnf;arg 1;arg 4;arg 3;whnf
 refine ⟨?_,?_⟩
|apply ze rfl
 . conv=>lhs;whnf
 . conv=>lhs;whnf
 . first | exact h1 | exact h2 | exact h3 | exact h4
|apply zS rfl rfl rfl
 . conv=>lhs;whnf
 . conv=>lhs;whnf;arg 1;whnf
 . conv=>lhs;whnf;arg 1;whnf
 . exact ⟨by kernel_rfl,by kernel_rfl⟩
 . rfl
|apply zL rfl
 . conv=>lhs;whnf
 . conv=>lhs;whnf
 . first | rfl | assumption
 . conv=>lhs;whnf;arg 2;whnf
|apply zY rfl
 . conv=>lhs;whnf
 . conv=>lhs;whnf
 . first | rfl | assumption
 . conv=>lhs;whnf
 . first | exact h1 | exact h2 | exact h3 | exact h4
|apply zF rfl
 . conv=>lhs;whnf
 . conv=>lhs;whnf
 . conv=>lhs;whnf;arg 2;whnf
|refine zE ?_
|refine ⟨_,by conv=>lhs;whnf;arg 2;whnf,?_⟩;conv=>rhs;whnf
|exact trivial
|intro hg)
 all_goals first
  |rfl
  |(rw [g2];done)
  |(rw [g2];rfl)
  |skip
end
section
open Go.RowKit
set_option linter.unusedSectionVars false
def fC7 (x:D):Nat:=(x.f 1).l.length+(x.f 3).l.length
def dC7 (t:D):Nat:=1+(t.f 4).l.length+(t.f 5).l.length+(t.f 6).l.length+(t.f 3).l.length+(t.f 2).l.length
def fS7 (t:D) (k:Nat):Nat:=sumN (fun k=>fC7 (gD (t.f 4).l k)) k
def dS7 (t:D):Nat:=dC7 t+fS7 t (t.f 4).l.length
def lS7 (l:List D) (i:Nat):Nat:=sumN (fun i=>dS7 (gD l i)) i
theorem fC7_le (x:D):fC7 x<=bulkD x:=by
 have w:=zb x
 have wf:=zAJ x 4
 simp only [sumN] at wf
 have a:=zn (x.f 1);have a':=zAK (x.f 1).l
 have b:=zn (x.f 3);have b':=zAK (x.f 3).l
 unfold fC7;omega
theorem fS7_le (t:D) {k:Nat} (h:k<=(t.f 4).l.length):fS7 t k<=bulkL (t.f 4).l:=by
 rw [zAg]
 exact Nat.le_trans (zCi fun i _=>fC7_le _) (zAt _ h)
theorem dC7_le (t:D):dC7 t+bulkL (t.f 4).l<=2*bulkD t:=by
 have w:=zb t
 have wf:=zAJ t 7
 simp only [sumN] at wf
 have a2:=zn (t.f 2);have b2:=zAK (t.f 2).l
 have a3:=zn (t.f 3);have b3:=zAK (t.f 3).l
 have a4:=zn (t.f 4);have b4:=zAK (t.f 4).l
 have a5:=zn (t.f 5);have b5:=zAK (t.f 5).l
 have a6:=zn (t.f 6);have b6:=zAK (t.f 6).l
 unfold dC7;omega
theorem dS7_le (t:D):dS7 t<=2*bulkD t:=by
 have:=dC7_le t
 have:=fS7_le t (Nat.le_refl _)
 unfold dS7;omega
theorem lS7_le (l:List D) {i:Nat} (h:i<=l.length):lS7 l i<=2*bulkL l:=by
 rw [zAg,<- zBK]
 exact Nat.le_trans (zCi fun i _=>dS7_le _) (zAt _ h)
def zGN (l:List D):Bool:=decide (70<l.length)||decide ((lS7 l l.length:Int)>1000)
theorem zJO {a b:Int} (h:a=b):V.c (.int .i64 a)=V.c (.int .i64 b):=by rw [h]
attribute [local irreducible] wpList Calls Code.wp AW AWo OpOk seqK zz z8 loopK endK AC zl Yld Sub
attribute [local irreducible] ACB ACX ACE absLexG YldG absLexH
noncomputable def HL7 (d:D) (n:Int) (i:Nat):Vst 71:=stS 71 [(1,.bx 1 0),(3,.c (.int .i64 n)),(4,.c (.int .i64 (i:Int)))] [(1,.box 25 (cellsV Tryz.prog 12 25 d))]
noncomputable def HM7 (d t:D) (n:Int) (i k:Nat):Vst 71:=stS 71 [(1,.bx 1 0),(3,.c (.int .i64 n)),(4,.c (.int .i64 (i:Int))),(5,.bx 5 0),(6,.c (.int .i64 (k:Int)))] [(1,.box 25 (cellsV Tryz.prog 12 25 d)),(5,.box 45 (cellsV Tryz.prog 12 45 t))]
theorem large7_ac (d:D) (hb:bulkD d<=1048576):AC EN Tryz.prog 19 [.agg (cellsV Tryz.prog 12 25 d)] (.c (.bool (zGN (d.f 0).l))):=by
 have w:=zb d
 have wf:=wD_f d 0
 have b0:=zn (d.f 0);have l0:=zAK (d.f 0).l
 by_cases h7:70<(d.f 0).l.length
 . have f1:decide (((d.f 0).l.length:Int)>70)=true:=decide_eq_true (by omega)
   rw [show zGN (d.f 0).l=true by unfold zGN;rw [decide_eq_true h7];rfl]
   refine zN 71 Tryz.func19 rfl rfl rfl rfl ?_
   intro s w he
   repeat' (first
|apply zG
 . conv=>lhs;whnf
 . assumption
|refine zA ?_
|refine zB ?_
|refine zH ?_
|apply aw_1
 conv=>whnf
 refine ⟨?_,trivial⟩
|apply s_1
 conv=>whnf;arg 1;arg 4;arg 3;whnf
 refine ⟨?_,?_⟩
|apply zAL rfl rfl rfl rfl
 . conv=>lhs;whnf;arg 1;whnf
 . rfl
|refine zO ?_
|refine zE ?_
|refine ⟨_,by conv=>lhs;whnf;arg 2;whnf,?_⟩;conv=>rhs;whnf
|exact trivial)
 have f1:decide (((d.f 0).l.length:Int)>70)=false:=decide_eq_false (by omega)
 rw [show zGN (d.f 0).l=decide ((lS7 (d.f 0).l (d.f 0).l.length:Int)>1000) by unfold zGN;rw [decide_eq_false h7,Bool.false_or]]
 refine zN 71 Tryz.func19 rfl rfl rfl rfl ?_
 intro s w he
 repeat' (first
|apply zC
 . conv=>lhs;whnf
 . assumption
|refine zA ?_
|refine zB ?_
|refine zH ?_
|apply aw_1
 conv=>whnf
 refine ⟨?_,trivial⟩
|apply s_1
 conv=>whnf;arg 1;arg 4;arg 3;whnf
 refine ⟨?_,?_⟩
|apply zAL rfl rfl rfl rfl
 . conv=>lhs;whnf;arg 1;whnf
 . rfl
|exact trivial)
 refine zi (fun j st => ∃ i,i+j=(d.f 0).l.length/\Sub (cx EN Tryz.prog s w he) st (HL7 d (lS7 (d.f 0).l i) i)) (d.f 0).l.length ⟨0,by omega,Sub.live ⟨rfl,rfl,rfl,trivial⟩ ⟨rfl,trivial⟩⟩ ?_
 rintro j st ⟨i,hij,hs2⟩
 refine zg hs2 ?_
 clear hs2
 by_cases hi:i<(d.f 0).l.length
 . have f2:decide ((i:Int)<((d.f 0).l.length:Nat))=true:=decide_eq_true (by omega)
   have z1:=lS7_le (d.f 0).l (show i+1<=(d.f 0).l.length from hi)
   have e1:lS7 (d.f 0).l (i+1)=lS7 (d.f 0).l i+dS7 (gD (d.f 0).l i):=rfl
   have hbg:=zAE hi
   have z2:=dC7_le (gD (d.f 0).l i)
   have e2:dC7 (gD (d.f 0).l i)=1+((gD (d.f 0).l i).f 4).l.length+((gD (d.f 0).l i).f 5).l.length+((gD (d.f 0).l i).f 6).l.length+((gD (d.f 0).l i).f 3).l.length+((gD (d.f 0).l i).f 2).l.length:=rfl
   have e3:dS7 (gD (d.f 0).l i)=dC7 (gD (d.f 0).l i)+fS7 (gD (d.f 0).l i) ((gD (d.f 0).l i).f 4).l.length:=rfl
   have z3:=zAK ((gD (d.f 0).l i).f 4).l
   repeat' (first
|apply zG
 . conv=>lhs;whnf
 . assumption
|refine zA ?_
|refine zB ?_
|refine zH ?_
|apply aw_1
 conv=>whnf
 refine ⟨?_,trivial⟩
|apply s_1
 conv=>whnf;arg 1;arg 4;arg 3;whnf
 refine ⟨?_,?_⟩
|apply zS rfl rfl rfl
 . conv=>lhs;whnf
 . conv=>lhs;whnf;arg 1;whnf
 . conv=>lhs;whnf;arg 1;whnf
 . exact ⟨by kernel_rfl,by kernel_rfl⟩
 . rfl
|exact trivial)
   all_goals first
    |exact zU (by omega)
    |(refine zU ?_;simp only [Int.toNat_natCast,Nat.zero_add,Nat.reduceAdd];omega)
    |exact zAI hi
    |skip
   refine zi (fun jj st => ∃ k,k+jj=((gD (d.f 0).l i).f 4).l.length/\Sub (cx EN Tryz.prog s w he) st (HM7 d (gD (d.f 0).l i) (lS7 (d.f 0).l i+dC7 (gD (d.f 0).l i)+fS7 (gD (d.f 0).l i) k:Nat) i k)) ((gD (d.f 0).l i).f 4).l.length ⟨0,by omega,Sub.live ⟨rfl,?_,rfl,rfl,rfl,trivial⟩ ⟨rfl,rfl,trivial⟩⟩ ?_
   . refine zJO ?_
     rw [show fS7 (gD (d.f 0).l i) 0=0 from rfl,e2]
     simp only [Int.toNat_natCast,Nat.zero_add,Nat.reduceAdd]
     omega
   rintro jj st2 ⟨k,hkj,hs3⟩
   refine zg hs3 ?_
   clear hs3
   by_cases hk:k<((gD (d.f 0).l i).f 4).l.length
   . have g1:decide ((k:Int)<(((gD (d.f 0).l i).f 4).l.length:Nat))=true:=decide_eq_true (by omega)
     have z4:=fS7_le (gD (d.f 0).l i) (show k+1<=((gD (d.f 0).l i).f 4).l.length from hk)
     have e4:fS7 (gD (d.f 0).l i) (k+1)=fS7 (gD (d.f 0).l i) k+fC7 (gD ((gD (d.f 0).l i).f 4).l k):=rfl
     have e5:fC7 (gD ((gD (d.f 0).l i).f 4).l k)=((gD ((gD (d.f 0).l i).f 4).l k).f 1).l.length+((gD ((gD (d.f 0).l i).f 4).l k).f 3).l.length:=rfl
     repeat' (first
|apply zG
 . conv=>lhs;whnf
 . assumption
|refine zA ?_
|refine zB ?_
|refine zH ?_
|refine zR ?_
|apply aw_1
 conv=>whnf
 refine ⟨?_,trivial⟩
|apply s_1
 conv=>whnf;arg 1;arg 4;arg 3;whnf
 refine ⟨?_,?_⟩
|apply zAF (by kernel_rfl) (by kernel_rfl)
|apply zAs
|apply zAr rfl
 . conv=>lhs;whnf
 . conv=>lhs;whnf;arg 2;whnf
|exact zk
|exact zv
|exact (1000000:Nat)
|exact trivial)
     all_goals first
      |exact zU (by omega)
      |(refine zU ?_;simp only [Int.toNat_natCast,Nat.zero_add,Nat.reduceAdd];omega)
      |exact zAI hi
      |exact zAI hk
      |(refine zI (j':=jj-1) (by omega) ⟨k+1,by omega,Sub.live ⟨rfl,?_,rfl,rfl,rfl,trivial⟩ ⟨rfl,rfl,trivial⟩⟩
        refine zJO ?_
        rw [e4,e5]
        try simp only [Int.toNat_natCast,Nat.zero_add,Nat.reduceAdd]
        omega)
      |skip
   . have g1:decide ((k:Int)<(((gD (d.f 0).l i).f 4).l.length:Nat))=false:=decide_eq_false (by omega)
     have ek:k=((gD (d.f 0).l i).f 4).l.length:=by omega
     subst ek
     repeat' (first
|apply zC
 . conv=>lhs;whnf
 . assumption
|refine zA ?_
|refine zB ?_
|refine zH ?_
|refine zR ?_
|apply aw_1
 conv=>whnf
 refine ⟨?_,trivial⟩
|apply s_1
 conv=>whnf;arg 1;arg 4;arg 3;whnf
 refine ⟨?_,?_⟩
|refine zM ?_
|refine zK rfl ?_
|refine zJ ?_
|exact trivial)
     all_goals first
      |exact zU (by omega)
      |(refine zU ?_;simp only [Int.toNat_natCast,Nat.zero_add,Nat.reduceAdd];omega)
      |exact zAI hi
      |(refine zI (j':=j-1) (by omega) ⟨i+1,by omega,Sub.live ⟨rfl,?_,rfl,trivial⟩ ⟨rfl,trivial⟩⟩
        refine zJO ?_
        rw [e1,e3]
        try simp only [Int.toNat_natCast,Nat.zero_add,Nat.reduceAdd]
        omega)
      |skip
 . have f2:decide ((i:Int)<((d.f 0).l.length:Nat))=false:=decide_eq_false (by omega)
   have ei:i=(d.f 0).l.length:=by omega
   subst ei
   repeat' (first
|apply zC
 . conv=>lhs;whnf
 . assumption
|refine zA ?_
|refine zB ?_
|refine zH ?_
|apply aw_1
 conv=>whnf
 refine ⟨?_,trivial⟩
|apply s_1
 conv=>whnf;arg 1;arg 4;arg 3;whnf
 refine ⟨?_,?_⟩
|refine zM ?_
|refine zK rfl ?_
|refine zJ ?_
|refine zE ?_
|refine ⟨_,by conv=>lhs;whnf;arg 2;whnf,?_⟩;conv=>rhs;whnf
|exact trivial)
end
end Go.Proofs.YthppafnlnnpciaaGreatDoor
