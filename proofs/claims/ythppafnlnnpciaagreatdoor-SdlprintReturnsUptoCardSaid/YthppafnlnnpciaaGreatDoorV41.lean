import Derived.Test.YthppafnlnnpciaaGreatDoorV34
import Derived.Test.YthppafnlnnpciaaGreatDoorV35
set_option maxHeartbeats 8000000
set_option maxRecDepth 100000
set_option linter.unusedVariables false
set_option linter.unusedSimpArgs false
namespace Go.Proofs.YthppafnlnnpciaaGreatDoor
open Go.RowKit
set_option linter.unusedSectionVars false
attribute [local irreducible] wpList Calls Code.wp AW AWo OpOk seqK zz z8 loopK endK AC zl Yld Sub
attribute [local irreducible] ACB ACX ACE absLexG YldG absLexH
noncomputable def HtXS (l:List D) (i:Nat):Vst 26:=stS 26 [(0,.sl 9 l),(1,.sl 9 l),(5,.c (.int .i64 (i:Int)))] []
theorem textsS7_ac (l:List D):AC EN5 Tryz.prog 105 [.sl 9 l,.sl 9 l] (.c (.bool true)):=by
 refine zHZ 1 fun hl => ?_
 have hl:l.length<=9223372036854775807:=hl.1
 have f0:=zDZ (l.length:Int)
 refine zN 26 Tryz.func105 rfl rfl rfl rfl ?_
 intro s w he
 repeat' (first
|apply zC
 . conv=>lhs;whnf
 . assumption
|refine zA ?_
|refine zB ?_
|refine zH ?_
|apply aw_1
 conv=>whnf
 refine ⟨?_,trivial⟩
|apply s_1
 conv=>whnf;arg 1;arg 4;arg 3;whnf
 refine ⟨?_,?_⟩
|exact trivial)
 refine zi (fun j st => ∃ i,i+j=l.length/\Sub (cx EN5 Tryz.prog s w he) st (HtXS l i)) l.length ⟨0,by omega,Sub.live ⟨rfl,rfl,rfl,trivial⟩ trivial⟩ ?_
 rintro j st ⟨i,hij,hs2⟩
 refine zg hs2 ?_
 clear hs2
 by_cases hi:i<l.length
 . have f1:decide ((i:Int)<(l.length:Nat))=true:=decide_eq_true (by omega)
   have f2:=eqs_f (gD l i).s
   repeat' (first
|apply zG
 . conv=>lhs;whnf
 . assumption
|apply zC
 . conv=>lhs;whnf
 . assumption
|refine zA ?_
|refine zB ?_
|refine zH ?_
|refine zR ?_
|apply aw_1
 conv=>whnf
 refine ⟨?_,trivial⟩
|apply s_1
 conv=>whnf;arg 1;arg 4;arg 3;whnf
 refine ⟨?_,?_⟩
|apply zAF (by kernel_rfl) (by kernel_rfl)
|apply zAs
|apply zAr rfl
 . conv=>lhs;whnf
 . conv=>lhs;whnf;arg 2;whnf
|exact zk
|exact zv
|exact (1000000:Nat)
|exact trivial)
   all_goals first
    |exact zU (by omega)
    |exact zAI hi
    |exact zI (j':=j-1) (by omega) ⟨i+1,by omega,Sub.live ⟨rfl,rfl,rfl,trivial⟩ trivial⟩
 . have f1:decide ((i:Int)<(l.length:Nat))=false:=decide_eq_false (by omega)
   repeat' (first
|apply zC
 . conv=>lhs;whnf
 . assumption
|refine zA ?_
|refine zB ?_
|refine zH ?_
|apply aw_1
 conv=>whnf
 refine ⟨?_,trivial⟩
|apply s_1
 conv=>whnf;arg 1;arg 4;arg 3;whnf
 refine ⟨?_,?_⟩
|refine zM ?_
|refine zK rfl ?_
|refine zJ ?_
|refine zE ?_
|refine ⟨_,by conv=>lhs;whnf;arg 2;whnf,?_⟩;conv=>rhs;whnf
|exact trivial)
noncomputable def HuDS (l:List D) (i:Nat):Vst 95:=stS 95 [(0,.sl 108 l),(1,.sl 108 l),(5,.c (.int .i64 (i:Int)))] []
noncomputable def HuES (l:List D) (i k:Nat):Vst 95:=stS 95 [(0,.sl 108 l),(1,.sl 108 l),(5,.c (.int .i64 (i:Int))),(6,.c (.int .i64 (k:Int)))] []
theorem zD2 (l:List D) (hb:bulkL l<=1000000000):AC EN5 Tryz.prog 106 [.sl 108 l,.sl 108 l] (.c (.bool true)):=by
 refine zHZ 2 fun hL => ?_
 have hl:l.length<=9223372036854775807:=hL.1
 have hla : ∀ i,i<l.length->((gD l i).f 1).l.length<=9223372036854775807:=fun i hi=>len_dir (hL.2 (by decide +kernel) i hi)
 have f0:=zDZ (l.length:Int)
 refine zN 95 Tryz.func106 rfl rfl rfl rfl ?_
 intro s w he
 repeat' (first
|apply zC
 . conv=>lhs;whnf
 . assumption
|refine zA ?_
|refine zB ?_
|refine zH ?_
|apply aw_1
 conv=>whnf
 refine ⟨?_,trivial⟩
|apply s_1
 conv=>whnf;arg 1;arg 4;arg 3;whnf
 refine ⟨?_,?_⟩
|exact trivial)
 refine zi (fun j st => ∃ i,i+j=l.length/\Sub (cx EN5 Tryz.prog s w he) st (HuDS l i)) l.length ⟨0,by omega,Sub.live ⟨rfl,rfl,rfl,trivial⟩ trivial⟩ ?_
 rintro j st ⟨i,hij,hs2⟩
 refine zg hs2 ?_
 clear hs2
 by_cases hi:i<l.length
 . have f1:decide ((i:Int)<(l.length:Nat))=true:=decide_eq_true (by omega)
   have k1:=zJW ((gD l i).f 0).s
   have f2:=zDZ (((gD l i).f 1).l.length:Int)
   have ha:=hla i hi
   repeat' (first
|apply zG
 . conv=>lhs;whnf
 . assumption
|apply zC
 . conv=>lhs;whnf
 . assumption
|exact (k1 ‹_›).elim
|refine zA ?_
|refine zB ?_
|refine zH ?_
|apply aw_1
 conv=>whnf
 refine ⟨?_,trivial⟩
|apply s_1
 conv=>whnf;arg 1;arg 4;arg 3;whnf
 refine ⟨?_,?_⟩
|apply zAF (by kernel_rfl) (by kernel_rfl)
|apply zAs
|apply zGd rfl rfl
 . conv=>lhs;whnf
 . conv=>lhs;whnf
 . first | exact bF1 ‹_› | exact bF2 ‹_›
|apply zAr rfl
 . conv=>lhs;whnf
 . conv=>lhs;whnf;arg 2;whnf
|apply zBv rfl
 . conv=>lhs;whnf
 . conv=>lhs;whnf
 . first | rfl | assumption
 . conv=>lhs;whnf;arg 2;whnf
|apply zDQ rfl
 . conv=>lhs;whnf
 . conv=>lhs;whnf
 . conv=>lhs;whnf;arg 2;whnf
|exact zk
|exact ([]:List Nat)
|exact (1000000:Nat)
|exact trivial
|intro hg)
   all_goals first
    |exact zU (by omega)
    |exact zAI hi
    |skip
   refine zi (fun j st => ∃ k,k+j=((gD l i).f 1).l.length/\Sub (cx EN5 Tryz.prog s w he) st (HuES l i k)) ((gD l i).f 1).l.length ⟨0,by omega,Sub.live ⟨rfl,rfl,rfl,rfl,trivial⟩ trivial⟩ ?_
   rintro j2 st2 ⟨k,hkj,hs3⟩
   refine zg hs3 ?_
   clear hs3
   by_cases hk:k<((gD l i).f 1).l.length
   . have g1:decide ((k:Int)<(((gD l i).f 1).l.length:Nat))=true:=decide_eq_true (by omega)
     have k2:=zJW ((gD ((gD l i).f 1).l k).f 0).s
     have hv:=same_ac ((gD ((gD l i).f 1).l k).f 1) (by have:=(zCO hi 1).2;have:=(zCO hk 1).1;omega)
     have f3:=zFv
     repeat' (first
|apply zG
 . conv=>lhs;whnf
 . assumption
|apply zC
 . conv=>lhs;whnf
 . assumption
|exact (k2 ‹_›).elim
|refine zA ?_
|refine zB ?_
|refine zH ?_
|refine zR ?_
|apply aw_1
 conv=>whnf
 refine ⟨?_,trivial⟩
|apply s_1
 conv=>whnf;arg 1;arg 4;arg 3;whnf
 refine ⟨?_,?_⟩
|apply zAF (by kernel_rfl) (by kernel_rfl)
|apply zAs
|apply zGd rfl rfl
 . conv=>lhs;whnf
 . conv=>lhs;whnf
 . first | exact bF1 ‹_› | exact bF2 ‹_›
|apply zAr rfl
 . conv=>lhs;whnf
 . conv=>lhs;whnf;arg 2;whnf
|apply zBv rfl
 . conv=>lhs;whnf
 . conv=>lhs;whnf
 . first | rfl | assumption
 . conv=>lhs;whnf;arg 2;whnf
|apply zDe rfl
 . conv=>lhs;whnf
 . conv=>lhs;whnf
 . first | rfl | assumption
 . conv=>lhs;whnf
 . first | exact hv
|apply zDQ rfl
 . conv=>lhs;whnf
 . conv=>lhs;whnf
 . conv=>lhs;whnf;arg 2;whnf
|exact zk
|exact ([]:List Nat)
|exact (1000000:Nat)
|exact trivial
|intro hg)
     all_goals first
      |exact zU (by omega)
      |exact zAI hi
      |exact zAI hk
      |exact zI (j':=j2-1) (by omega) ⟨k+1,by omega,Sub.live ⟨rfl,rfl,rfl,rfl,trivial⟩ trivial⟩
      |skip
   . have g1:decide ((k:Int)<(((gD l i).f 1).l.length:Nat))=false:=decide_eq_false (by omega)
     repeat' (first
|apply zC
 . conv=>lhs;whnf
 . assumption
|refine zA ?_
|refine zB ?_
|refine zH ?_
|refine zR ?_
|apply aw_1
 conv=>whnf
 refine ⟨?_,trivial⟩
|apply s_1
 conv=>whnf;arg 1;arg 4;arg 3;whnf
 refine ⟨?_,?_⟩
|refine zM ?_
|refine zK rfl ?_
|refine zJ ?_
|exact trivial)
     all_goals first
      |exact zU (by omega)
      |exact zAI hi
      |exact zI (j':=j-1) (by omega) ⟨i+1,by omega,Sub.live ⟨rfl,rfl,rfl,trivial⟩ trivial⟩
      |skip
 . have f1:decide ((i:Int)<(l.length:Nat))=false:=decide_eq_false (by omega)
   repeat' (first
|apply zC
 . conv=>lhs;whnf
 . assumption
|refine zA ?_
|refine zB ?_
|refine zH ?_
|apply aw_1
 conv=>whnf
 refine ⟨?_,trivial⟩
|apply s_1
 conv=>whnf;arg 1;arg 4;arg 3;whnf
 refine ⟨?_,?_⟩
|refine zM ?_
|refine zK rfl ?_
|refine zJ ?_
|refine zE ?_
|refine ⟨_,by conv=>lhs;whnf;arg 2;whnf,?_⟩;conv=>rhs;whnf
|exact trivial)
noncomputable def HuIS (l:List D) (i:Nat):Vst 63:=stS 63 [(0,.sl 55 l),(1,.sl 55 l),(5,.c (.int .i64 (i:Int)))] []
noncomputable def HuIX (l:List D) (i:Nat):Vst 63:=stS 63 [(0,.sl 55 l),(1,.sl 55 l),(5,.c (.int .i64 (i:Int))),(6,.bx 6 0),(7,.bx 7 0)] [(6,.box 55 (cellsV Tryz.prog 12 55 (gD l i))),(7,.box 55 (cellsV Tryz.prog 12 55 (gD l i)))]
theorem zFR (l:List D) (hb:bulkL l<=1000000000):AC EN5 Tryz.prog 107 [.sl 55 l,.sl 55 l] (.c (.bool true)):=by
 refine zHZ 1 fun hL => ?_
 have hl:l.length<=9223372036854775807:=hL.1
 have f0:=zDZ (l.length:Int)
 refine zN 63 Tryz.func107 rfl rfl rfl rfl ?_
 intro s w he
 repeat' (first
|apply zC
 . conv=>lhs;whnf
 . assumption
|refine zA ?_
|refine zB ?_
|refine zH ?_
|apply aw_1
 conv=>whnf
 refine ⟨?_,trivial⟩
|apply s_1
 conv=>whnf;arg 1;arg 4;arg 3;whnf
 refine ⟨?_,?_⟩
|exact trivial)
 refine zi (fun j st => ∃ i,i+j=l.length/\Sub (cx EN5 Tryz.prog s w he) st (HuIS l i)) l.length ⟨0,by omega,Sub.live ⟨rfl,rfl,rfl,trivial⟩ trivial⟩ ?_
 rintro j st ⟨i,hij,hs2⟩
 refine zg hs2 ?_
 clear hs2
 by_cases hi:i<l.length
 . have f1:decide ((i:Int)<(l.length:Nat))=true:=decide_eq_true (by omega)
   have k1:=zJW ((gD l i).f 0).s
   have k2:=eqb_k ((gD l i).f 2).b
   have k3:=eqt_k
   have h1:=refU_ac ((gD l i).f 1)
   have h2:=same_ac ((gD l i).f 3) (by have:=(zCO hi 3).1;omega)
   have h3:=zD2 ((gD l i).f 4).l (by have:=(zCO hi 4).2;omega)
   have f3:=zFv
   repeat' (first
|apply zK2 ([(3,[1000000]),(7,[1000000])]) ([(8,[6]),(9,[7]),(10,[6]),(11,[7])]) ([(8,6),(9,7)]) rfl (by kernel_rfl) (by kernel_rfl) (by kernel_rfl) (by intro p hp;simp only [List.mem_cons,List.not_mem_nil,or_false] at hp;rcases hp with rfl | rfl<;>(repeat' (first | exact fresh_S rfl | refine fresh_put ?_ rfl | refine fresh_res ?_ rfl rfl)))
|apply h_nil
|apply h_alloc rfl rfl rfl rfl
 . conv=>lhs;whnf;arg 1;whnf
 . rfl
 . rfl
 . kernel_rfl
|apply h_val rfl
 . conv=>lhs;whnf
 . conv=>lhs;whnf;arg 2;whnf
 . kernel_rfl
|apply h_store rfl rfl rfl
 . conv=>lhs;whnf
 . rfl
 . conv=>lhs;whnf;arg 1;whnf
 . conv=>lhs;whnf;arg 1;whnf
 . exact ⟨by kernel_rfl,by kernel_rfl⟩
 . rfl
 . kernel_rfl
|show inO _ _=true;rfl
|apply zG
 . conv=>lhs;whnf
 . assumption
|apply zC
 . conv=>lhs;whnf
 . assumption
|exact (k1 ‹_›).elim
|exact (k2 ‹_›).elim
|apply z7 7 (HuIX l i) rfl
|refine zCB ?_
|refine zA ?_
|refine zB ?_
|refine zH ?_
|refine zR ?_
|apply aw_1
 conv=>whnf
 refine ⟨?_,trivial⟩
|apply za rfl rfl
 . conv=>lhs;whnf
 . conv=>lhs;whnf
 . first | exact bF1 ‹_› | exact bF2 ‹_›
|apply s_1
 conv=>whnf;arg 1;arg 4;arg 3;whnf
 refine ⟨?_,?_⟩
|apply zL rfl
 . conv=>lhs;whnf
 . conv=>lhs;whnf
 . first | rfl | assumption
 . conv=>lhs;whnf;arg 2;whnf
|apply zY rfl
 . conv=>lhs;whnf
 . conv=>lhs;whnf
 . first | rfl | assumption
 . conv=>lhs;whnf
 . first | exact h1 | exact h2 | exact h3
|apply zF rfl
 . conv=>lhs;whnf
 . conv=>lhs;whnf
 . conv=>lhs;whnf;arg 2;whnf
|exact trivial
|intro hg)
   all_goals first
    |exact zU (by omega)
    |exact zAI hi
    |exact Sub.live ⟨rfl,rfl,rfl,rfl,rfl,trivial⟩ ⟨rfl,rfl,trivial⟩
    |exact (show Tryz.prog.underlying 4=some TypeDesc.bool by kernel_rfl)
    |exact zI (j':=j-1) (by omega) ⟨i+1,by omega,Sub.live ⟨rfl,rfl,rfl,trivial⟩ trivial⟩
    |skip
 . have f1:decide ((i:Int)<(l.length:Nat))=false:=decide_eq_false (by omega)
   repeat' (first
|apply zC
 . conv=>lhs;whnf
 . assumption
|refine zA ?_
|refine zB ?_
|refine zH ?_
|apply aw_1
 conv=>whnf
 refine ⟨?_,trivial⟩
|apply s_1
 conv=>whnf;arg 1;arg 4;arg 3;whnf
 refine ⟨?_,?_⟩
|refine zM ?_
|refine zK rfl ?_
|refine zJ ?_
|refine zE ?_
|refine ⟨_,by conv=>lhs;whnf;arg 2;whnf,?_⟩;conv=>rhs;whnf
|exact trivial)
noncomputable def HuFS (d:D) (i:Nat):Vst 142:=stS 142 [(2,.bx 2 0),(3,.bx 3 0),(5,.c (.int .i64 (i:Int)))] [(2,.box 45 (cellsV Tryz.prog 12 45 d)),(3,.box 45 (cellsV Tryz.prog 12 45 d))]
noncomputable def HuMS (d:D) (i:Nat):Vst 142:=stS 142 [(2,.bx 2 0),(3,.bx 3 0),(8,.c (.int .i64 (i:Int)))] [(2,.box 45 (cellsV Tryz.prog 12 45 d)),(3,.box 45 (cellsV Tryz.prog 12 45 d))]
noncomputable def HuXS (d:D) (i:Nat):Vst 142:=stS 142 [(2,.bx 2 0),(3,.bx 3 0),(5,.c (.int .i64 (i:Int))),(6,.bx 6 0),(7,.bx 7 0)] [(2,.box 45 (cellsV Tryz.prog 12 45 d)),(3,.box 45 (cellsV Tryz.prog 12 45 d)),(6,.box 50 (cellsV Tryz.prog 12 50 (gD (d.f 4).l i))),(7,.box 50 (cellsV Tryz.prog 12 50 (gD (d.f 4).l i)))]
theorem defS7_ac (d:D) (hb:bulkD d<=1000000000):AC EN5 Tryz.prog 45 [.agg (cellsV Tryz.prog 12 45 d),.agg (cellsV Tryz.prog 12 45 d)] (.c (.bool true)):=by
 refine zEe 2 (by kernel_rfl) fun hL => ?_
 have hL:=len_def hL
 have hl4:(d.f 4).l.length<=9223372036854775807:=hL.1
 have hl5:(d.f 5).l.length<=9223372036854775807:=hL.2
 have k1:=eqn_k (d.f 0).n
 have k2:=zJW (d.f 1).s
 have k3:=eqt_k
 have k4:=eqn_k ((d.f 4).l.length:Int)
 have f5:=zDZ ((d.f 5).l.length:Int)
 have h1:=textsS7_ac (d.f 2).l
 have hbf : ∀ j,bulkL (d.f j).l<=1000000000:=fun j=>by have:=wD_f d j;have:=zn (d.f j);have:=zb d;omega
 have h2:=zD2 (d.f 3).l (hbf 3)
 have h3:=zFR (d.f 6).l (hbf 6)
 have f3:=zFv
 refine zN 142 Tryz.func45 rfl rfl rfl rfl ?_
 intro s w he
 repeat' (first
|apply zC
 . conv=>lhs;whnf
 . assumption
|exact (k1 ‹_›).elim
|exact (k2 ‹_›).elim
|exact (k4 ‹_›).elim
|refine zA ?_
|refine zB ?_
|refine zH ?_
|apply aw_1
 conv=>whnf
 refine ⟨?_,trivial⟩
|apply za rfl rfl
 . conv=>lhs;whnf
 . conv=>lhs;whnf
 . first | exact bF1 ‹_› | exact bF2 ‹_›
|apply s_1
 conv=>whnf;arg 1;arg 4;arg 3;whnf
 refine ⟨?_,?_⟩
|apply zAL rfl rfl rfl rfl
 . conv=>lhs;whnf;arg 1;whnf
 . rfl
|apply zL rfl
 . conv=>lhs;whnf
 . conv=>lhs;whnf
 . first | rfl | assumption
 . conv=>lhs;whnf;arg 2;whnf
|apply zY rfl
 . conv=>lhs;whnf
 . conv=>lhs;whnf
 . first | rfl | assumption
 . conv=>lhs;whnf
 . first | exact h1 | exact h2
|apply zF rfl
 . conv=>lhs;whnf
 . conv=>lhs;whnf
 . conv=>lhs;whnf;arg 2;whnf
|exact trivial
|intro hg)
 clear h1 h2 k1 k2 k4 f5
 refine zi (fun j st => ∃ i,i+j=(d.f 4).l.length/\Sub (cx EN5 Tryz.prog s w he) st (HuFS d i)) (d.f 4).l.length ⟨0,by omega,Sub.live ⟨rfl,rfl,rfl,trivial⟩ ⟨rfl,rfl,trivial⟩⟩ ?_
 rintro j st ⟨i,hij,hs2⟩
 refine zg hs2 ?_
 clear hs2
 by_cases hi:i<(d.f 4).l.length
 . have g1:decide ((i:Int)<((d.f 4).l.length:Nat))=true:=decide_eq_true (by omega)
   have k1:=zJW ((gD (d.f 4).l i).f 0).s
   have h1:=zFR ((gD (d.f 4).l i).f 1).l (by have:=hbf 4;have:=(zCO hi 1).2;omega)
   have h2:=refU_ac ((gD (d.f 4).l i).f 2)
   have h4:=zD2 ((gD (d.f 4).l i).f 3).l (by have:=hbf 4;have:=(zCO hi 3).2;omega)
   repeat' (first
|apply zK2 ([(1,[2]),(6,[3])]) ([(10,[6]),(11,[7]),(12,[6]),(13,[7])]) ([(10,6),(11,7)]) rfl (by kernel_rfl) (by kernel_rfl) (by kernel_rfl) (by intro p hp;simp only [List.mem_cons,List.not_mem_nil,or_false] at hp;rcases hp with rfl | rfl<;>(repeat' (first | exact fresh_S rfl | refine fresh_put ?_ rfl | refine fresh_res ?_ rfl rfl)))
|apply h_nil
|apply h_alloc rfl rfl rfl rfl
 . conv=>lhs;whnf;arg 1;whnf
 . rfl
 . rfl
 . kernel_rfl
|apply h_val rfl
 . conv=>lhs;whnf
 . conv=>lhs;whnf;arg 2;whnf
 . kernel_rfl
|apply h_store rfl rfl rfl
 . conv=>lhs;whnf
 . rfl
 . conv=>lhs;whnf;arg 1;whnf
 . conv=>lhs;whnf;arg 1;whnf
 . exact ⟨by kernel_rfl,by kernel_rfl⟩
 . rfl
 . kernel_rfl
|show inO _ _=true;rfl
|apply zG
 . conv=>lhs;whnf
 . assumption
|apply zC
 . conv=>lhs;whnf
 . assumption
|exact (k1 ‹_›).elim
|apply z7 7 (HuXS d i) rfl
|refine zCB ?_
|refine zA ?_
|refine zB ?_
|refine zH ?_
|refine zR ?_
|apply aw_1
 conv=>whnf
 refine ⟨?_,trivial⟩
|apply za rfl rfl
 . conv=>lhs;whnf
 . conv=>lhs;whnf
 . first | exact bF1 ‹_› | exact bF2 ‹_›
|apply s_1
 conv=>whnf;arg 1;arg 4;arg 3;whnf
 refine ⟨?_,?_⟩
|apply zL rfl
 . conv=>lhs;whnf
 . conv=>lhs;whnf
 . first | rfl | assumption
 . conv=>lhs;whnf;arg 2;whnf
|apply zY rfl
 . conv=>lhs;whnf
 . conv=>lhs;whnf
 . first | rfl | assumption
 . conv=>lhs;whnf
 . first | exact h1 | exact h2 | exact h4
|apply zF rfl
 . conv=>lhs;whnf
 . conv=>lhs;whnf
 . conv=>lhs;whnf;arg 2;whnf
|exact trivial
|intro hg)
   all_goals first
    |exact zU (by omega)
    |exact zAI hi
    |exact Sub.live ⟨rfl,rfl,rfl,rfl,rfl,trivial⟩ ⟨rfl,rfl,rfl,rfl,trivial⟩
    |exact zI (j':=j-1) (by omega) ⟨i+1,by omega,Sub.live ⟨rfl,rfl,rfl,trivial⟩ ⟨rfl,rfl,trivial⟩⟩
    |skip
 . have g1:decide ((i:Int)<((d.f 4).l.length:Nat))=false:=decide_eq_false (by omega)
   repeat' (first
|apply zC
 . conv=>lhs;whnf
 . assumption
|refine zA ?_
|refine zB ?_
|refine zH ?_
|apply aw_1
 conv=>whnf
 refine ⟨?_,trivial⟩
|apply s_1
 conv=>whnf;arg 1;arg 4;arg 3;whnf
 refine ⟨?_,?_⟩
|refine zM ?_
|refine zK rfl ?_
|refine zJ ?_
|exact trivial)
   refine zi (fun j st => ∃ i,i+j=(d.f 5).l.length/\Sub (cx EN5 Tryz.prog s w he) st (HuMS d i)) (d.f 5).l.length ⟨0,by omega,Sub.live ⟨rfl,rfl,rfl,trivial⟩ ⟨rfl,rfl,trivial⟩⟩ ?_
   rintro j st ⟨i,hij,hs2⟩
   refine zg hs2 ?_
   clear hs2
   by_cases hi:i<(d.f 5).l.length
   . have g1:decide ((i:Int)<((d.f 5).l.length:Nat))=true:=decide_eq_true (by omega)
     have k1:=zJW ((gD (d.f 5).l i).f 0).s
     have h4:=zD2 ((gD (d.f 5).l i).f 1).l (by have:=hbf 5;have:=(zCO hi 1).2;omega)
     repeat' (first
|apply zG
 . conv=>lhs;whnf
 . assumption
|apply zC
 . conv=>lhs;whnf
 . assumption
|exact (k1 ‹_›).elim
|refine zA ?_
|refine zB ?_
|refine zH ?_
|refine zR ?_
|apply aw_1
 conv=>whnf
 refine ⟨?_,trivial⟩
|apply s_1
 conv=>whnf;arg 1;arg 4;arg 3;whnf
 refine ⟨?_,?_⟩
|apply zAF (by kernel_rfl) (by kernel_rfl)
|apply zAs
|apply zGd rfl rfl
 . conv=>lhs;whnf
 . conv=>lhs;whnf
 . first | exact bF1 ‹_› | exact bF2 ‹_›
|apply zAr rfl
 . conv=>lhs;whnf
 . conv=>lhs;whnf;arg 2;whnf
|apply zBv rfl
 . conv=>lhs;whnf
 . conv=>lhs;whnf
 . first | rfl | assumption
 . conv=>lhs;whnf;arg 2;whnf
|apply zDe rfl
 . conv=>lhs;whnf
 . conv=>lhs;whnf
 . first | rfl | assumption
 . conv=>lhs;whnf
 . first | exact h4
|apply zDQ rfl
 . conv=>lhs;whnf
 . conv=>lhs;whnf
 . conv=>lhs;whnf;arg 2;whnf
|exact zk
|exact zv
|exact ([]:List Nat)
|exact (1000000:Nat)
|exact trivial
|intro hg)
     all_goals first
      |exact zU (by omega)
      |exact zAI hi
      |exact zI (j':=j-1) (by omega) ⟨i+1,by omega,Sub.live ⟨rfl,rfl,rfl,trivial⟩ ⟨rfl,rfl,trivial⟩⟩
      |skip
   . have g1:decide ((i:Int)<((d.f 5).l.length:Nat))=false:=decide_eq_false (by omega)
     repeat' (first
|apply zC
 . conv=>lhs;whnf
 . assumption
|refine zA ?_
|refine zB ?_
|refine zH ?_
|apply aw_1
 conv=>whnf
 refine ⟨?_,trivial⟩
|apply s_1
 conv=>whnf;arg 1;arg 4;arg 3;whnf
 refine ⟨?_,?_⟩
|apply ze rfl
 . conv=>lhs;whnf
 . conv=>lhs;whnf
 . first | exact h3
|refine zM ?_
|refine zK rfl ?_
|refine zJ ?_
|refine zE ?_
|refine ⟨_,by conv=>lhs;whnf;arg 2;whnf,?_⟩;conv=>rhs;whnf
|exact trivial)
noncomputable def HuQS (d:D) (i:Nat):Vst 32:=stS 32 [(2,.bx 2 0),(3,.bx 3 0),(5,.c (.int .i64 (i:Int)))] [(2,.box 25 (cellsV Tryz.prog 12 25 d)),(3,.box 25 (cellsV Tryz.prog 12 25 d))]
theorem sameS7_ac (d:D) (hb:bulkD d<=1000000000):AC EN5 Tryz.prog 22 [.agg (cellsV Tryz.prog 12 25 d),.agg (cellsV Tryz.prog 12 25 d)] (.c (.bool true)):=by
 refine zEe 2 (by kernel_rfl) fun hL => ?_
 have hl:(d.f 0).l.length<=9223372036854775807:=len_doc hL
 have f0:=zDZ ((d.f 0).l.length:Int)
 refine zN 32 Tryz.func22 rfl rfl rfl rfl ?_
 intro s w he
 repeat' (first
|apply zC
 . conv=>lhs;whnf
 . assumption
|refine zA ?_
|refine zB ?_
|refine zH ?_
|apply aw_1
 conv=>whnf
 refine ⟨?_,trivial⟩
|apply s_1
 conv=>whnf;arg 1;arg 4;arg 3;whnf
 refine ⟨?_,?_⟩
|apply zAL rfl rfl rfl rfl
 . conv=>lhs;whnf;arg 1;whnf
 . rfl
|exact trivial)
 refine zi (fun j st => ∃ i,i+j=(d.f 0).l.length/\Sub (cx EN5 Tryz.prog s w he) st (HuQS d i)) (d.f 0).l.length ⟨0,by omega,Sub.live ⟨rfl,rfl,rfl,trivial⟩ ⟨rfl,rfl,trivial⟩⟩ ?_
 rintro j st ⟨i,hij,hs2⟩
 refine zg hs2 ?_
 clear hs2
 by_cases hi:i<(d.f 0).l.length
 . have g1:decide ((i:Int)<((d.f 0).l.length:Nat))=true:=decide_eq_true (by omega)
   have h1:=defS7_ac (gD (d.f 0).l i) (by have:=wD_f d 0;have:=zn (d.f 0);have:=zb d;have:=zAE hi;omega)
   have f3:=zFv
   repeat' (first
|apply zG
 . conv=>lhs;whnf
 . assumption
|apply zC
 . conv=>lhs;whnf
 . assumption
|refine zA ?_
|refine zB ?_
|refine zH ?_
|refine zR ?_
|apply aw_1
 conv=>whnf
 refine ⟨?_,trivial⟩
|apply s_1
 conv=>whnf;arg 1;arg 4;arg 3;whnf
 refine ⟨?_,?_⟩
|apply zAF (by kernel_rfl) (by kernel_rfl)
|apply zAs
|apply zAr rfl
 . conv=>lhs;whnf
 . conv=>lhs;whnf;arg 2;whnf
|apply zBa rfl
 . conv=>lhs;whnf
 . conv=>lhs;whnf
 . first | exact h1
|exact zk
|exact zv
|exact (1000000:Nat)
|exact trivial)
   all_goals first
    |exact zU (by omega)
    |exact zAI hi
    |exact zI (j':=j-1) (by omega) ⟨i+1,by omega,Sub.live ⟨rfl,rfl,rfl,trivial⟩ ⟨rfl,rfl,trivial⟩⟩
    |skip
 . have g1:decide ((i:Int)<((d.f 0).l.length:Nat))=false:=decide_eq_false (by omega)
   repeat' (first
|apply zC
 . conv=>lhs;whnf
 . assumption
|refine zA ?_
|refine zB ?_
|refine zH ?_
|apply aw_1
 conv=>whnf
 refine ⟨?_,trivial⟩
|apply s_1
 conv=>whnf;arg 1;arg 4;arg 3;whnf
 refine ⟨?_,?_⟩
|refine zM ?_
|refine zK rfl ?_
|refine zJ ?_
|refine zE ?_
|refine ⟨_,by conv=>lhs;whnf;arg 2;whnf,?_⟩;conv=>rhs;whnf
|exact trivial)
end Go.Proofs.YthppafnlnnpciaaGreatDoor
