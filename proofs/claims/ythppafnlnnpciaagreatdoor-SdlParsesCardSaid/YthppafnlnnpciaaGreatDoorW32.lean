import Derived.Test.YthppafnlnnpciaaGreatDoorW31
set_option maxHeartbeats 8000000
set_option maxRecDepth 100000
set_option linter.unusedVariables false
set_option linter.unusedSimpArgs false
namespace Go.Proofs.YthppafnlnnpciaaGreatDoor
section
open Go.RowKit
set_option linter.unusedSectionVars false
attribute [local irreducible] wpList Calls Code.wp AW AWo OpOk seqK zq zu loopK endK AC zf Yld Sub
attribute [local irreducible] ACB ACX ACE absLexG YldG absLexU YldU absLexH
theorem zCH (s:List UInt8):AC EN5 Tryz.prog 27 [.c (.string (bs s))] (.c (.int .i64 (kindS s))):=by
 refine zP 14 Tryz.func27 rfl rfl rfl rfl ?_
 intro s0 w he
 repeat' (first
|refine zA ?_
|refine zB ?_
|refine zF ?_
|refine zZ ?_
|apply aw_1
 conv=>whnf
 refine ⟨?_,trivial⟩
|apply s_1
 conv=>whnf;arg 1;arg 4;arg 3;whnf
 refine ⟨?_,?_⟩
|refine ze (by conv=>lhs;whnf) ?_ ?_<;>intro hb
|refine zQ ?_
|refine zV ?_
|refine zE ?_
|refine ⟨_,by conv=>lhs;whnf;arg 2;whnf,?_⟩;conv=>rhs;whnf
|exact trivial)
 all_goals first
  |rw [ks_1 ‹_›]
  |rw [ks_2 ‹_› ‹_›]
  |rw [ks_3 ‹_› ‹_› ‹_›]
  |rw [ks_4 ‹_› ‹_› ‹_› ‹_›]
  |rw [ks_5 ‹_› ‹_› ‹_› ‹_› ‹_›]
  |rw [ks_0 ‹_› ‹_› ‹_› ‹_› ‹_›]
noncomputable def HDf (l:List Tok) (k:Int) (nm:List UInt8) (F:V) (ds:List D) (y:RS) (ls:List D) (i:Nat):Vst 94:=
 stS 94 [(0,.bx (pn 0) 0),(2,.bx 2 0),(3,.bx 3 0),(4,.sl 9 ls),(5,.c (.int .i64 (i:Int)))]
  [(pn 0,boxF l y),(2,.box 45 [.c (.int .i64 0),.c (.string ⟨#[]⟩),.c (.slice none 0 0),.c (.slice none 0 0),.c (.slice none 0 0),.c (.slice none 0 0),.c (.slice none 0 0)]),(3,.box 45 [.c (.int .i64 k),.c (.string (bs nm)),F,.sl 108 ds,.c (.slice none 0 0),.own 903 79 ((ls.take i).map mbOf),.c (.slice none 0 0)]),(903,.tok 79 ((ls.take i).map mbOf).length)]
noncomputable def HD0 (l:List Tok) (y:RS):Vst 94:=
 stS 94 [(0,.bx (pn 0) 0),(2,.bx 2 0)] [(pn 0,boxF l y),(2,.box 45 [.c (.int .i64 0),.c (.string ⟨#[]⟩),.c (.slice none 0 0),.c (.slice none 0 0),.c (.slice none 0 0),.c (.slice none 0 0),.c (.slice none 0 0)])]
theorem take_mb (ls:List D) (i:Nat) (h:i<ls.length):(ls.take (i+1)).map mbOf=(ls.take i).map mbOf++[mbOf (gD ls i)]:=by
 rw [List.take_succ_eq_append_getElem h,List.map_append,zB2 h];rfl
theorem zE3 (l:List Tok) (s:List UInt8) : ∀ (f:Nat) (acc:List D) (x:RS),(namesLT l s f acc x).1.length<=acc.length+f
 |0,acc,x=>by show acc.length<=acc.length+0;omega
 |f+1,acc,x=>by
  unfold namesLT
  split
  . split
    . have:=zE3 l s f (acc++[strD (nameZ l (limZ l acc.length 64 x)).1]) (upZ (nameZ l (limZ l acc.length 64 x)).2)
      rw [List.length_append] at this
      simp only [List.length_cons,List.length_nil] at this
      omega
    . rw [List.length_append];simp only [List.length_cons,List.length_nil];omega
  . simp
section
variable (l:List Tok) (hE:Ed l) (hl:l.length<=100000) (hS : ∀ i,i<l.length->(l.getD i ⟨5,[],0⟩).s.length<=100000)
include hE hl hS
theorem def1n_acb (x:RS) (hx:x.at'<l.length) (hnm:nmZ l x=true) (hkk:kindS (tkZ l x).s=1) (hw:wdZ l zFj (nameZ l (upZ x)).2=false):ACB EN5 Tryz.prog 30 [.bx (pn 0) 0] [boxF l x] (VDf (zAi l 1 x).1) [boxF l (zAi l 1 x).2]:=by
 have hk:=hkk
 have hgd:gD (l.map tokD) ((x.at':Int)).toNat=tokD (tkZ l x):=zA1 l hx
 have hki:AC EN5 Tryz.prog 27 [.c (.string ((gD (l.map tokD) ((x.at':Int)).toNat).f 1).s)] (.c (.int .i64 1)):=by
  rw [hgd]
  have:=zCH (tkZ l x).s
  rw [hkk] at this
  exact this
 have hu:=(zCa hE hx hnm).mv
 have hat:=hu.hi
 have k1:=zAN l (upZ x) hu.hi hl
 have m1:=(zy hE hu.hi).mv
 have hat2:=m1.hi
 have eo:zAi l 1 x=(fun n=>(fun f=>(fun s=>(fun b=>(sDfD 1 n.1 f.1 s.1 b.1.1 b.1.2.1 b.1.2.2,b.2)) (zFW l 1 s.2)) (dirsZ1 l f.2)) (zAf l 1 n.2)) (nameZ l (upZ x)):=rfl
 have kw:=zJh l (nameZ l (upZ x)).2 m1.hi zFj
 have eF:zAf l 1 (nameZ l (upZ x)).2=([],(nameZ l (upZ x)).2):=by unfold zAf;rw [if_neg (fun h=>by have:=h.2;rw [hw] at this;cases this)]
 rw [hw] at kw
 dsimp only at eo
 rw [eF] at eo
 try dsimp only at eo
 generalize nameZ l (upZ x)=A1 at *
 have k3:=zAg l hE hl hS A1.2 m1.hi
 have m3:=zAO hE m1.hi
 generalize dirsZ1 l A1.2=S1 at *
 have k4:=zAJ l S1.2 m3.hi hl [123]
 have m4:=(zAA hE [123] m3.hi).mv
 have k5:=zHF l hE hl hS (needZ l [123] S1.2) m4.hi
 let vd:=sDfD 1 A1.1 [] S1.1 (fdsT l (needZ l [123] S1.2)).1 [] []
 have eo2:zAi l 1 x=(vd,(fdsT l (needZ l [123] S1.2)).2):=by rw [eo];rfl
 rw [eo2]
 refine zb (fn:=Tryz.f30) 94 Tryz.func30 rfl rfl ?_
 intro pas w0 w he hp
 repeat' (first
|apply zBp ([(3,[1000000]),(7,[1000000])]) ([(13,[3]),(14,[3])]) ([(13,3)]) rfl (by kernel_rfl) (by kernel_rfl) (by kernel_rfl) (by intro p hp;simp only [List.mem_cons,List.not_mem_nil,or_false] at hp;rcases hp with rfl<;>(repeat' (first | exact fresh_S rfl | refine fresh_put ?_ rfl | refine fresh_res ?_ rfl rfl)))
|apply zIK
|apply zCg rfl rfl rfl rfl
 . conv=>lhs;whnf;arg 1;whnf
 . rfl
 . rfl
 . kernel_rfl
|apply zIJ rfl
 . conv=>lhs;whnf
 . conv=>lhs;whnf;arg 2;whnf
 . kernel_rfl
|apply zCf rfl rfl rfl
 . conv=>lhs;whnf
 . rfl
 . conv=>lhs;whnf;arg 1;whnf
 . conv=>lhs;whnf;arg 1;whnf
 . exact ⟨by kernel_rfl,by kernel_rfl⟩
 . rfl
 . kernel_rfl
|apply zFE rfl
 . conv=>lhs;whnf
 . conv=>lhs;whnf
 . first | exact hki
 . kernel_rfl
|show inO _ _=true;rfl
|apply s_m (zj l) (zN l) rfl
 . conv=>lhs;whnf
 . conv=>lhs;whnf
 . rfl
 . conv=>lhs;whnf;arg 1;whnf
 . first | exact z6 _ _ | exact zBh _ _
 . first | exact k1 | exact kw | exact k3 | exact k4 | exact k5
 . exact fun _=>rfl
 . exact fun _=>rfl
|apply zl (zj l) (zN l) rfl
 . conv=>lhs;whnf
 . conv=>lhs;whnf
 . first | rfl | assumption
 . conv=>lhs;whnf
 . rfl
 . conv=>lhs;whnf;arg 1;whnf
 . first | exact z6 _ _ | exact zBh _ _
 . first | exact k1 | exact kw | exact k3 | exact k4 | exact k5
 . exact fun _=>rfl
 . exact fun _=>rfl
|apply zAD (VDf vd) rfl rfl
 . conv=>lhs;whnf;arg 2;whnf
 . repeat' (first | exact VLe.refl _ | exact VLe.nil _ | exact VLe.lit _ _ | exact VLe.own _ _ _ | apply VLe.agg | apply VLeL.cons | exact VLeL.nil)
|apply zo 1 (HD0 l x) rfl
|refine zBA ?_
|refine zA ?_
|refine zB ?_
|refine zF ?_
|refine zZ ?_
|apply aw_1
 conv=>whnf
 refine ⟨?_,trivial⟩
|apply s_1
 conv=>whnf;arg 1;arg 4;arg 3;whnf
 refine ⟨?_,?_⟩
|apply zI rfl rfl rfl
 . conv=>lhs;whnf
 . conv=>lhs;whnf;arg 1;whnf
 . conv=>lhs;whnf;arg 1;whnf
 . exact ⟨by kernel_rfl,by kernel_rfl⟩
 . rfl
|refine zx ⟨?_,?_⟩
|refine ⟨_,by conv=>lhs;whnf;arg 2;whnf,?_⟩;conv=>rhs;whnf
|exact trivial)
 all_goals first
  |exact zU (by omega)
  |exact zAr l hx
  |exact Sub.live ⟨rfl,rfl,trivial⟩ ⟨rfl,rfl,trivial⟩
  |exact ⟨rfl,trivial⟩
  |rfl
  |skip
theorem def1f_acb (x:RS) (hx:x.at'<l.length) (hnm:nmZ l x=true) (hkk:kindS (tkZ l x).s=1) (hw:wdZ l zFj (nameZ l (upZ x)).2=true):ACB EN5 Tryz.prog 30 [.bx (pn 0) 0] [boxF l x] (VDf (zAi l 1 x).1) [boxF l (zAi l 1 x).2]:=by
 have hk:=hkk
 have hgd:gD (l.map tokD) ((x.at':Int)).toNat=tokD (tkZ l x):=zA1 l hx
 have hki:AC EN5 Tryz.prog 27 [.c (.string ((gD (l.map tokD) ((x.at':Int)).toNat).f 1).s)] (.c (.int .i64 1)):=by
  rw [hgd]
  have:=zCH (tkZ l x).s
  rw [hkk] at this
  exact this
 have hu:=(zCa hE hx hnm).mv
 have hat:=hu.hi
 have k1:=zAN l (upZ x) hu.hi hl
 have m1:=(zy hE hu.hi).mv
 have hat2:=m1.hi
 have eo:zAi l 1 x=(fun n=>(fun f=>(fun s=>(fun b=>(sDfD 1 n.1 f.1 s.1 b.1.1 b.1.2.1 b.1.2.2,b.2)) (zFW l 1 s.2)) (dirsZ1 l f.2)) (zAf l 1 n.2)) (nameZ l (upZ x)):=rfl
 have kw:=zJh l (nameZ l (upZ x)).2 m1.hi zFj
 have eF:zAf l 1 (nameZ l (upZ x)).2=namesT l [38] (upZ (nameZ l (upZ x)).2):=by unfold zAf;rw [if_pos ⟨rfl,hw⟩]
 have mu:=(wdup_pg hE m1.hi hw).mv
 rw [hw] at kw
 dsimp only at eo
 rw [eF] at eo
 try dsimp only at eo
 generalize nameZ l (upZ x)=A1 at *
 have kn:=zF9 l hE hl hS [38] (upZ A1.2) mu.hi
 have mn:=zDg hE [38] mu.hi
 generalize namesT l [38] (upZ A1.2)=F1 at *
 have k3:=zAg l hE hl hS F1.2 mn.hi
 have m3:=zAO hE mn.hi
 generalize dirsZ1 l F1.2=S1 at *
 have k4:=zAJ l S1.2 m3.hi hl [123]
 have m4:=(zAA hE [123] m3.hi).mv
 have k5:=zHF l hE hl hS (needZ l [123] S1.2) m4.hi
 let vd:=sDfD 1 A1.1 F1.1 S1.1 (fdsT l (needZ l [123] S1.2)).1 [] []
 have eo2:zAi l 1 x=(vd,(fdsT l (needZ l [123] S1.2)).2):=by rw [eo];rfl
 rw [eo2]
 refine zb (fn:=Tryz.f30) 94 Tryz.func30 rfl rfl ?_
 intro pas w0 w he hp
 repeat' (first
|apply zBp ([(3,[1000000]),(7,[1000000])]) ([(13,[3]),(14,[3])]) ([(13,3)]) rfl (by kernel_rfl) (by kernel_rfl) (by kernel_rfl) (by intro p hp;simp only [List.mem_cons,List.not_mem_nil,or_false] at hp;rcases hp with rfl<;>(repeat' (first | exact fresh_S rfl | refine fresh_put ?_ rfl | refine fresh_res ?_ rfl rfl)))
|apply zIK
|apply zCg rfl rfl rfl rfl
 . conv=>lhs;whnf;arg 1;whnf
 . rfl
 . rfl
 . kernel_rfl
|apply zIJ rfl
 . conv=>lhs;whnf
 . conv=>lhs;whnf;arg 2;whnf
 . kernel_rfl
|apply zCf rfl rfl rfl
 . conv=>lhs;whnf
 . rfl
 . conv=>lhs;whnf;arg 1;whnf
 . conv=>lhs;whnf;arg 1;whnf
 . exact ⟨by kernel_rfl,by kernel_rfl⟩
 . rfl
 . kernel_rfl
|apply zFE rfl
 . conv=>lhs;whnf
 . conv=>lhs;whnf
 . first | exact hki
 . kernel_rfl
|show inO _ _=true;rfl
|apply s_m (zj l) (zN l) rfl
 . conv=>lhs;whnf
 . conv=>lhs;whnf
 . rfl
 . conv=>lhs;whnf;arg 1;whnf
 . first | exact z6 _ _ | exact zBh _ _
 . first | exact k1 | exact kw | exact kn | exact k3 | exact k4 | exact k5
 . exact fun _=>rfl
 . exact fun _=>rfl
|apply zl (zj l) (zN l) rfl
 . conv=>lhs;whnf
 . conv=>lhs;whnf
 . first | rfl | assumption
 . conv=>lhs;whnf
 . rfl
 . conv=>lhs;whnf;arg 1;whnf
 . first | exact z6 _ _ | exact zBh _ _
 . first | exact k1 | exact kw | exact kn | exact k3 | exact k4 | exact k5
 . exact fun _=>rfl
 . exact fun _=>rfl
|apply zAD (VDf vd) rfl rfl
 . conv=>lhs;whnf;arg 2;whnf
 . repeat' (first | exact VLe.refl _ | exact VLe.nil _ | exact VLe.lit _ _ | exact VLe.own _ _ _ | apply VLe.agg | apply VLeL.cons | exact VLeL.nil)
|apply zo 1 (HD0 l x) rfl
|refine zBA ?_
|refine zA ?_
|refine zB ?_
|refine zF ?_
|refine zZ ?_
|apply aw_1
 conv=>whnf
 refine ⟨?_,trivial⟩
|apply s_1
 conv=>whnf;arg 1;arg 4;arg 3;whnf
 refine ⟨?_,?_⟩
|apply zI rfl rfl rfl
 . conv=>lhs;whnf
 . conv=>lhs;whnf;arg 1;whnf
 . conv=>lhs;whnf;arg 1;whnf
 . exact ⟨by kernel_rfl,by kernel_rfl⟩
 . rfl
|refine zx ⟨?_,?_⟩
|refine ⟨_,by conv=>lhs;whnf;arg 2;whnf,?_⟩;conv=>rhs;whnf
|exact trivial)
 all_goals first
  |exact zU (by omega)
  |exact zAr l hx
  |exact Sub.live ⟨rfl,rfl,trivial⟩ ⟨rfl,rfl,trivial⟩
  |exact ⟨rfl,trivial⟩
  |rfl
  |skip
theorem def2_acb (x:RS) (hx:x.at'<l.length) (hnm:nmZ l x=true) (hkk:kindS (tkZ l x).s=2):ACB EN5 Tryz.prog 30 [.bx (pn 0) 0] [boxF l x] (VDf (zAi l 2 x).1) [boxF l (zAi l 2 x).2]:=by
 have hk:=hkk
 have hgd:gD (l.map tokD) ((x.at':Int)).toNat=tokD (tkZ l x):=zA1 l hx
 have hki:AC EN5 Tryz.prog 27 [.c (.string ((gD (l.map tokD) ((x.at':Int)).toNat).f 1).s)] (.c (.int .i64 2)):=by
  rw [hgd]
  have:=zCH (tkZ l x).s
  rw [hkk] at this
  exact this
 have hu:=(zCa hE hx hnm).mv
 have hat:=hu.hi
 have k1:=zAN l (upZ x) hu.hi hl
 have m1:=(zy hE hu.hi).mv
 have hat2:=m1.hi
 have eo:zAi l 2 x=(fun n=>(fun f=>(fun s=>(fun b=>(sDfD 2 n.1 f.1 s.1 b.1.1 b.1.2.1 b.1.2.2,b.2)) (zFW l 2 s.2)) (dirsZ1 l f.2)) (zAf l 2 n.2)) (nameZ l (upZ x)):=rfl
 have eF:zAf l 2 (nameZ l (upZ x)).2=([],(nameZ l (upZ x)).2):=by unfold zAf;rw [if_neg (fun h=>by have:=h.1;omega)]
 dsimp only at eo
 rw [eF] at eo
 try dsimp only at eo
 generalize nameZ l (upZ x)=A1 at *
 have k3:=zAg l hE hl hS A1.2 m1.hi
 have m3:=zAO hE m1.hi
 generalize dirsZ1 l A1.2=S1 at *
 have k4:=zAJ l S1.2 m3.hi hl [123]
 have m4:=(zAA hE [123] m3.hi).mv
 have k5:=zHF l hE hl hS (needZ l [123] S1.2) m4.hi
 let vd:=sDfD 2 A1.1 [] S1.1 (fdsT l (needZ l [123] S1.2)).1 [] []
 have eo2:zAi l 2 x=(vd,(fdsT l (needZ l [123] S1.2)).2):=by rw [eo];rfl
 rw [eo2]
 refine zb (fn:=Tryz.f30) 94 Tryz.func30 rfl rfl ?_
 intro pas w0 w he hp
 repeat' (first
|apply zBp ([(3,[1000000]),(7,[1000000])]) ([(13,[3]),(14,[3])]) ([(13,3)]) rfl (by kernel_rfl) (by kernel_rfl) (by kernel_rfl) (by intro p hp;simp only [List.mem_cons,List.not_mem_nil,or_false] at hp;rcases hp with rfl<;>(repeat' (first | exact fresh_S rfl | refine fresh_put ?_ rfl | refine fresh_res ?_ rfl rfl)))
|apply zIK
|apply zCg rfl rfl rfl rfl
 . conv=>lhs;whnf;arg 1;whnf
 . rfl
 . rfl
 . kernel_rfl
|apply zIJ rfl
 . conv=>lhs;whnf
 . conv=>lhs;whnf;arg 2;whnf
 . kernel_rfl
|apply zCf rfl rfl rfl
 . conv=>lhs;whnf
 . rfl
 . conv=>lhs;whnf;arg 1;whnf
 . conv=>lhs;whnf;arg 1;whnf
 . exact ⟨by kernel_rfl,by kernel_rfl⟩
 . rfl
 . kernel_rfl
|apply zFE rfl
 . conv=>lhs;whnf
 . conv=>lhs;whnf
 . first | exact hki
 . kernel_rfl
|show inO _ _=true;rfl
|apply s_m (zj l) (zN l) rfl
 . conv=>lhs;whnf
 . conv=>lhs;whnf
 . rfl
 . conv=>lhs;whnf;arg 1;whnf
 . first | exact z6 _ _ | exact zBh _ _
 . first | exact k1 | exact k3 | exact k4 | exact k5
 . exact fun _=>rfl
 . exact fun _=>rfl
|apply zW rfl
 . conv=>lhs;whnf
 . conv=>lhs;whnf
 . first | rfl | assumption
|apply zAD (VDf vd) rfl rfl
 . conv=>lhs;whnf;arg 2;whnf
 . repeat' (first | exact VLe.refl _ | exact VLe.nil _ | exact VLe.lit _ _ | exact VLe.own _ _ _ | apply VLe.agg | apply VLeL.cons | exact VLeL.nil)
|apply zo 1 (HD0 l x) rfl
|refine zBA ?_
|refine zA ?_
|refine zB ?_
|refine zF ?_
|refine zZ ?_
|apply aw_1
 conv=>whnf
 refine ⟨?_,trivial⟩
|apply s_1
 conv=>whnf;arg 1;arg 4;arg 3;whnf
 refine ⟨?_,?_⟩
|apply zI rfl rfl rfl
 . conv=>lhs;whnf
 . conv=>lhs;whnf;arg 1;whnf
 . conv=>lhs;whnf;arg 1;whnf
 . exact ⟨by kernel_rfl,by kernel_rfl⟩
 . rfl
|refine zx ⟨?_,?_⟩
|refine ⟨_,by conv=>lhs;whnf;arg 2;whnf,?_⟩;conv=>rhs;whnf
|exact trivial)
 all_goals first
  |exact zU (by omega)
  |exact zAr l hx
  |exact Sub.live ⟨rfl,rfl,trivial⟩ ⟨rfl,rfl,trivial⟩
  |exact ⟨rfl,trivial⟩
  |rfl
  |skip
theorem def4_acb (x:RS) (hx:x.at'<l.length) (hnm:nmZ l x=true) (hkk:kindS (tkZ l x).s=4):ACB EN5 Tryz.prog 30 [.bx (pn 0) 0] [boxF l x] (VDf (zAi l 4 x).1) [boxF l (zAi l 4 x).2]:=by
 have hk:=hkk
 have hgd:gD (l.map tokD) ((x.at':Int)).toNat=tokD (tkZ l x):=zA1 l hx
 have hki:AC EN5 Tryz.prog 27 [.c (.string ((gD (l.map tokD) ((x.at':Int)).toNat).f 1).s)] (.c (.int .i64 4)):=by
  rw [hgd]
  have:=zCH (tkZ l x).s
  rw [hkk] at this
  exact this
 have hu:=(zCa hE hx hnm).mv
 have hat:=hu.hi
 have k1:=zAN l (upZ x) hu.hi hl
 have m1:=(zy hE hu.hi).mv
 have hat2:=m1.hi
 have eo:zAi l 4 x=(fun n=>(fun f=>(fun s=>(fun b=>(sDfD 4 n.1 f.1 s.1 b.1.1 b.1.2.1 b.1.2.2,b.2)) (zFW l 4 s.2)) (dirsZ1 l f.2)) (zAf l 4 n.2)) (nameZ l (upZ x)):=rfl
 have eF:zAf l 4 (nameZ l (upZ x)).2=([],(nameZ l (upZ x)).2):=by unfold zAf;rw [if_neg (fun h=>by have:=h.1;omega)]
 dsimp only at eo
 rw [eF] at eo
 try dsimp only at eo
 generalize nameZ l (upZ x)=A1 at *
 have k3:=zAg l hE hl hS A1.2 m1.hi
 have m3:=zAO hE m1.hi
 generalize dirsZ1 l A1.2=S1 at *
 have k4:=zAJ l S1.2 m3.hi hl [123]
 have m4:=(zAA hE [123] m3.hi).mv
 have k5:=mbsF_acb l hE hl hS (needZ l [123] S1.2) m4.hi
 let vd:=sDfD 4 A1.1 [] S1.1 [] (mbsT l (needZ l [123] S1.2)).1 []
 have eo2:zAi l 4 x=(vd,(mbsT l (needZ l [123] S1.2)).2):=by rw [eo];rfl
 rw [eo2]
 refine zb (fn:=Tryz.f30) 94 Tryz.func30 rfl rfl ?_
 intro pas w0 w he hp
 repeat' (first
|apply zBp ([(3,[1000000]),(7,[1000000])]) ([(13,[3]),(14,[3])]) ([(13,3)]) rfl (by kernel_rfl) (by kernel_rfl) (by kernel_rfl) (by intro p hp;simp only [List.mem_cons,List.not_mem_nil,or_false] at hp;rcases hp with rfl<;>(repeat' (first | exact fresh_S rfl | refine fresh_put ?_ rfl | refine fresh_res ?_ rfl rfl)))
|apply zIK
|apply zCg rfl rfl rfl rfl
 . conv=>lhs;whnf;arg 1;whnf
 . rfl
 . rfl
 . kernel_rfl
|apply zIJ rfl
 . conv=>lhs;whnf
 . conv=>lhs;whnf;arg 2;whnf
 . kernel_rfl
|apply zCf rfl rfl rfl
 . conv=>lhs;whnf
 . rfl
 . conv=>lhs;whnf;arg 1;whnf
 . conv=>lhs;whnf;arg 1;whnf
 . exact ⟨by kernel_rfl,by kernel_rfl⟩
 . rfl
 . kernel_rfl
|apply zFE rfl
 . conv=>lhs;whnf
 . conv=>lhs;whnf
 . first | exact hki
 . kernel_rfl
|show inO _ _=true;rfl
|apply s_m (zj l) (zN l) rfl
 . conv=>lhs;whnf
 . conv=>lhs;whnf
 . rfl
 . conv=>lhs;whnf;arg 1;whnf
 . first | exact z6 _ _ | exact zBh _ _
 . first | exact k1 | exact k3 | exact k4 | exact k5
 . exact fun _=>rfl
 . exact fun _=>rfl
|apply zW rfl
 . conv=>lhs;whnf
 . conv=>lhs;whnf
 . first | rfl | assumption
|apply zAD (VDf vd) rfl rfl
 . conv=>lhs;whnf;arg 2;whnf
 . repeat' (first | exact VLe.refl _ | exact VLe.nil _ | exact VLe.lit _ _ | exact VLe.own _ _ _ | apply VLe.agg | apply VLeL.cons | exact VLeL.nil)
|apply zo 1 (HD0 l x) rfl
|refine zBA ?_
|refine zA ?_
|refine zB ?_
|refine zF ?_
|refine zZ ?_
|apply aw_1
 conv=>whnf
 refine ⟨?_,trivial⟩
|apply s_1
 conv=>whnf;arg 1;arg 4;arg 3;whnf
 refine ⟨?_,?_⟩
|apply zI rfl rfl rfl
 . conv=>lhs;whnf
 . conv=>lhs;whnf;arg 1;whnf
 . conv=>lhs;whnf;arg 1;whnf
 . exact ⟨by kernel_rfl,by kernel_rfl⟩
 . rfl
|refine zx ⟨?_,?_⟩
|refine ⟨_,by conv=>lhs;whnf;arg 2;whnf,?_⟩;conv=>rhs;whnf
|exact trivial)
 all_goals first
  |exact zU (by omega)
  |exact zAr l hx
  |exact Sub.live ⟨rfl,rfl,trivial⟩ ⟨rfl,rfl,trivial⟩
  |exact ⟨rfl,trivial⟩
  |rfl
  |skip
theorem def5_acb (x:RS) (hx:x.at'<l.length) (hnm:nmZ l x=true) (hkk:kindS (tkZ l x).s=5):ACB EN5 Tryz.prog 30 [.bx (pn 0) 0] [boxF l x] (VDf (zAi l 5 x).1) [boxF l (zAi l 5 x).2]:=by
 have hk:=hkk
 have hgd:gD (l.map tokD) ((x.at':Int)).toNat=tokD (tkZ l x):=zA1 l hx
 have hki:AC EN5 Tryz.prog 27 [.c (.string ((gD (l.map tokD) ((x.at':Int)).toNat).f 1).s)] (.c (.int .i64 5)):=by
  rw [hgd]
  have:=zCH (tkZ l x).s
  rw [hkk] at this
  exact this
 have hu:=(zCa hE hx hnm).mv
 have hat:=hu.hi
 have k1:=zAN l (upZ x) hu.hi hl
 have m1:=(zy hE hu.hi).mv
 have hat2:=m1.hi
 have eo:zAi l 5 x=(fun n=>(fun f=>(fun s=>(fun b=>(sDfD 5 n.1 f.1 s.1 b.1.1 b.1.2.1 b.1.2.2,b.2)) (zFW l 5 s.2)) (dirsZ1 l f.2)) (zAf l 5 n.2)) (nameZ l (upZ x)):=rfl
 have eF:zAf l 5 (nameZ l (upZ x)).2=([],(nameZ l (upZ x)).2):=by unfold zAf;rw [if_neg (fun h=>by have:=h.1;omega)]
 dsimp only at eo
 rw [eF] at eo
 try dsimp only at eo
 generalize nameZ l (upZ x)=A1 at *
 have k3:=zAg l hE hl hS A1.2 m1.hi
 have m3:=zAO hE m1.hi
 generalize dirsZ1 l A1.2=S1 at *
 have k4:=zAJ l S1.2 m3.hi hl [123]
 have m4:=(zAA hE [123] m3.hi).mv
 have k5:=zKa l hE hl hS [125] (needZ l [123] S1.2) m4.hi
 let vd:=sDfD 5 A1.1 [] S1.1 [] [] (insT l [125] (needZ l [123] S1.2)).1
 have eo2:zAi l 5 x=(vd,(insT l [125] (needZ l [123] S1.2)).2):=by rw [eo];rfl
 rw [eo2]
 refine zb (fn:=Tryz.f30) 94 Tryz.func30 rfl rfl ?_
 intro pas w0 w he hp
 repeat' (first
|apply zBp ([(3,[1000000]),(7,[1000000])]) ([(13,[3]),(14,[3])]) ([(13,3)]) rfl (by kernel_rfl) (by kernel_rfl) (by kernel_rfl) (by intro p hp;simp only [List.mem_cons,List.not_mem_nil,or_false] at hp;rcases hp with rfl<;>(repeat' (first | exact fresh_S rfl | refine fresh_put ?_ rfl | refine fresh_res ?_ rfl rfl)))
|apply zIK
|apply zCg rfl rfl rfl rfl
 . conv=>lhs;whnf;arg 1;whnf
 . rfl
 . rfl
 . kernel_rfl
|apply zIJ rfl
 . conv=>lhs;whnf
 . conv=>lhs;whnf;arg 2;whnf
 . kernel_rfl
|apply zCf rfl rfl rfl
 . conv=>lhs;whnf
 . rfl
 . conv=>lhs;whnf;arg 1;whnf
 . conv=>lhs;whnf;arg 1;whnf
 . exact ⟨by kernel_rfl,by kernel_rfl⟩
 . rfl
 . kernel_rfl
|apply zFE rfl
 . conv=>lhs;whnf
 . conv=>lhs;whnf
 . first | exact hki
 . kernel_rfl
|show inO _ _=true;rfl
|apply s_m (zj l) (zN l) rfl
 . conv=>lhs;whnf
 . conv=>lhs;whnf
 . rfl
 . conv=>lhs;whnf;arg 1;whnf
 . first | exact z6 _ _ | exact zBh _ _
 . first | exact k1 | exact k3 | exact k4 | exact k5
 . exact fun _=>rfl
 . exact fun _=>rfl
|apply zW rfl
 . conv=>lhs;whnf
 . conv=>lhs;whnf
 . first | rfl | assumption
|apply zAD (VDf vd) rfl rfl
 . conv=>lhs;whnf;arg 2;whnf
 . repeat' (first | exact VLe.refl _ | exact VLe.nil _ | exact VLe.lit _ _ | exact VLe.own _ _ _ | apply VLe.agg | apply VLeL.cons | exact VLeL.nil)
|apply zo 1 (HD0 l x) rfl
|refine zBA ?_
|refine zA ?_
|refine zB ?_
|refine zF ?_
|refine zZ ?_
|apply aw_1
 conv=>whnf
 refine ⟨?_,trivial⟩
|apply s_1
 conv=>whnf;arg 1;arg 4;arg 3;whnf
 refine ⟨?_,?_⟩
|apply zI rfl rfl rfl
 . conv=>lhs;whnf
 . conv=>lhs;whnf;arg 1;whnf
 . conv=>lhs;whnf;arg 1;whnf
 . exact ⟨by kernel_rfl,by kernel_rfl⟩
 . rfl
|refine zx ⟨?_,?_⟩
|refine ⟨_,by conv=>lhs;whnf;arg 2;whnf,?_⟩;conv=>rhs;whnf
|exact trivial)
 all_goals first
  |exact zU (by omega)
  |exact zAr l hx
  |exact Sub.live ⟨rfl,rfl,trivial⟩ ⟨rfl,rfl,trivial⟩
  |exact ⟨rfl,trivial⟩
  |rfl
  |skip
theorem def3_acb (x:RS) (hx:x.at'<l.length) (hnm:nmZ l x=true) (hkk:kindS (tkZ l x).s=3):ACB EN5 Tryz.prog 30 [.bx (pn 0) 0] [boxF l x] (VDf (zAi l 3 x).1) [boxF l (zAi l 3 x).2]:=by
 have hk:=hkk
 have hgd:gD (l.map tokD) ((x.at':Int)).toNat=tokD (tkZ l x):=zA1 l hx
 have hki:AC EN5 Tryz.prog 27 [.c (.string ((gD (l.map tokD) ((x.at':Int)).toNat).f 1).s)] (.c (.int .i64 3)):=by
  rw [hgd]
  have:=zCH (tkZ l x).s
  rw [hkk] at this
  exact this
 have hu:=(zCa hE hx hnm).mv
 have hat:=hu.hi
 have k1:=zAN l (upZ x) hu.hi hl
 have m1:=(zy hE hu.hi).mv
 have hat2:=m1.hi
 have eo:zAi l 3 x=(fun n=>(fun f=>(fun s=>(fun b=>(sDfD 3 n.1 f.1 s.1 b.1.1 b.1.2.1 b.1.2.2,b.2)) (zFW l 3 s.2)) (dirsZ1 l f.2)) (zAf l 3 n.2)) (nameZ l (upZ x)):=rfl
 have eF:zAf l 3 (nameZ l (upZ x)).2=([],(nameZ l (upZ x)).2):=by unfold zAf;rw [if_neg (fun h=>by have:=h.1;omega)]
 dsimp only at eo
 rw [eF] at eo
 try dsimp only at eo
 generalize nameZ l (upZ x)=A1 at *
 have k3:=zAg l hE hl hS A1.2 m1.hi
 have m3:=zAO hE m1.hi
 generalize dirsZ1 l A1.2=S1 at *
 have k4:=zAJ l S1.2 m3.hi hl [61]
 have m4:=(zAA hE [61] m3.hi).mv
 have k5:=zF9 l hE hl hS [124] (needZ l [61] S1.2) m4.hi
 have hnl:(namesT l [124] (needZ l [61] S1.2)).1.length<=100001:=by
  have:=zE3 l [124] (l.length+1-(needZ l [61] S1.2).at') [] (needZ l [61] S1.2)
  show (namesLT l [124] (l.length+1-(needZ l [61] S1.2).at') [] (needZ l [61] S1.2)).1.length<=_
  simp only [List.length_nil] at this
  omega
 have eo2:zAi l 3 x=(sDfD 3 A1.1 [] S1.1 [] ((namesT l [124] (needZ l [61] S1.2)).1.map mbOf) [],(namesT l [124] (needZ l [61] S1.2)).2):=by rw [eo];rfl
 rw [eo2]
 clear eo eo2
 generalize hN1:namesT l [124] (needZ l [61] S1.2)=N1 at *
 let vd:=sDfD 3 A1.1 [] S1.1 [] (N1.1.map mbOf) []
 refine zb (fn:=Tryz.f30) 94 Tryz.func30 rfl rfl ?_
 intro pas w0 w he hp
 repeat' (first
|apply zBp ([(3,[1000000]),(7,[1000000])]) ([(13,[3]),(14,[3])]) ([(13,3)]) rfl (by kernel_rfl) (by kernel_rfl) (by kernel_rfl) (by intro p hp;simp only [List.mem_cons,List.not_mem_nil,or_false] at hp;rcases hp with rfl<;>(repeat' (first | exact fresh_S rfl | refine fresh_put ?_ rfl | refine fresh_res ?_ rfl rfl)))
|apply zIK
|apply zCg rfl rfl rfl rfl
 . conv=>lhs;whnf;arg 1;whnf
 . rfl
 . rfl
 . kernel_rfl
|apply zIJ rfl
 . conv=>lhs;whnf
 . conv=>lhs;whnf;arg 2;whnf
 . kernel_rfl
|apply zCf rfl rfl rfl
 . conv=>lhs;whnf
 . rfl
 . conv=>lhs;whnf;arg 1;whnf
 . conv=>lhs;whnf;arg 1;whnf
 . exact ⟨by kernel_rfl,by kernel_rfl⟩
 . rfl
 . kernel_rfl
|apply zFE rfl
 . conv=>lhs;whnf
 . conv=>lhs;whnf
 . first | exact hki
 . kernel_rfl
|show inO _ _=true;rfl
|apply s_m (zj l) (zN l) rfl
 . conv=>lhs;whnf
 . conv=>lhs;whnf
 . rfl
 . conv=>lhs;whnf;arg 1;whnf
 . first | exact z6 _ _ | exact zBh _ _
 . first | exact k1 | exact k3 | exact k4 | exact k5
 . exact fun _=>rfl
 . exact fun _=>rfl
|apply zW rfl
 . conv=>lhs;whnf
 . conv=>lhs;whnf
 . first | rfl | assumption
|apply zo 1 (HD0 l x) rfl
|refine zBA ?_
|refine zA ?_
|refine zB ?_
|refine zF ?_
|apply aw_1
 conv=>whnf
 refine ⟨?_,trivial⟩
|apply s_1
 conv=>whnf;arg 1;arg 4;arg 3;whnf
 refine ⟨?_,?_⟩
|apply zI rfl rfl rfl
 . conv=>lhs;whnf
 . conv=>lhs;whnf;arg 1;whnf
 . conv=>lhs;whnf;arg 1;whnf
 . exact ⟨by kernel_rfl,by kernel_rfl⟩
 . rfl
|exact trivial)
 all_goals first
  |exact zU (by omega)
  |exact zAr l hx
  |exact Sub.live ⟨rfl,rfl,trivial⟩ ⟨rfl,rfl,trivial⟩
  |skip
 refine zg (Sub.live (cs:=[(0,.bx (pn 0) 0),(2,.bx 2 0),(3,.bx 3 0),(4,.sl 9 N1.1),(5,.c (.int .i64 0))]) (R:=[(pn 0,boxF l N1.2),(2,.box 45 [.c (.int .i64 0),.c (.string ⟨#[]⟩),.c (.slice none 0 0),.c (.slice none 0 0),.c (.slice none 0 0),.c (.slice none 0 0),.c (.slice none 0 0)]),(3,.box 45 [.c (.int .i64 3),.c (.string (bs A1.1)),.c (.slice none 0 0),.sl 108 S1.1,.c (.slice none 0 0),.c (.slice none 0 0),.c (.slice none 0 0)])]) ⟨rfl,rfl,rfl,rfl,rfl,trivial⟩ ⟨rfl,rfl,rfl,trivial⟩) ?_
 refine zg (Sub.ownF (m:=3) (q:=903) (i:=5) (e:=79) rfl (by decide) rfl rfl rfl) ?_
 refine zn (fun j st => ∃ i,i+j=N1.1.length/\Sub ⟨Tryz.prog,pas,w0,w,EN5,he,hp,fun _ _ _=>False,[]⟩ st (HDf l 3 A1.1 (.c (.slice none 0 0)) S1.1 N1.2 N1.1 i)) N1.1.length ⟨0,by omega,Sub.live ⟨rfl,rfl,rfl,rfl,rfl,trivial⟩ ⟨rfl,rfl,rfl,rfl,trivial⟩⟩ ?_
 rintro j st ⟨i,hij,hs2⟩
 refine zg hs2 ?_
 clear hs2
 by_cases hi:i<N1.1.length
 . have f1:decide ((i:Int)<(N1.1.length:Nat))=true:=decide_eq_true (by omega)
   have htl:((N1.1.take i).map mbOf).length=i:=by rw [List.length_map,List.length_take];omega
   repeat' (first
|apply zAR 11 ([(1,[3])]) ([(8,[903]),(10,[3])]) rfl (by kernel_rfl) (by kernel_rfl) (by kernel_rfl)
|apply zFf
|apply u_valW (VMr (mbOf (gD N1.1 i))) rfl rfl
 . conv=>lhs;whnf;arg 2;whnf
 . repeat' (first | exact VLe.refl _ | exact VLe.nil _ | exact VLe.lit _ _ | exact VLe.own _ _ _ | apply VLe.agg | apply VLeL.cons | exact VLeL.nil)
|apply u_lit [mbOf (gD N1.1 i)] rfl rfl
 . conv=>lhs;whnf
 . first | exact zCm | (conv=>lhs;whnf;arg 1;whnf)
 . rfl
 . rfl
 . repeat' (first | exact trivial | apply And.intro | rfl)
|apply zFe rfl
 . conv=>lhs;whnf
 . conv=>lhs;whnf;arg 2;whnf
|apply u_app rfl rfl
 . conv=>lhs;whnf
 . first | exact zCm | (conv=>lhs;whnf;arg 1;whnf)
 . first | exact fun _=>rfl | (intro _;kernel_rfl)
 . conv=>lhs;whnf
 . rfl
 . conv=>lhs;whnf;arg 1;whnf
 . conv=>lhs;whnf
|apply zCU rfl rfl rfl
 . conv=>lhs;whnf
 . rfl
 . conv=>lhs;whnf;arg 1;whnf
 . conv=>lhs;whnf;arg 1;whnf
 . exact ⟨by kernel_rfl,by kernel_rfl⟩
 . rfl
|show inO _ _=true;rfl
|apply zG
 . conv=>lhs;whnf
 . assumption
|refine zA ?_
|refine zB ?_
|refine zF ?_
|refine zZ ?_
|apply aw_1
 conv=>whnf
 refine ⟨?_,trivial⟩
|apply s_1
 conv=>whnf;arg 1;arg 4;arg 3;whnf
 refine ⟨?_,?_⟩
|exact trivial)
   all_goals first
    |exact zU (by omega)
    |exact (show 0<=(i:Int)/\(i:Int)<(N1.1.length:Int) from ⟨by omega,by omega⟩)
    |(refine ⟨by simp,?_,?_⟩<;>simp only [List.length_cons,List.length_nil,maxLen]<;>omega)
    |skip
   refine zJ (j':=j-1) (by omega) ⟨i+1,by omega,Sub.live ⟨rfl,rfl,rfl,rfl,rfl,trivial⟩ ⟨rfl,rfl,?_,?_,trivial⟩⟩
   . rw [take_mb _ _ hi];rfl
   . rw [take_mb _ _ hi,List.length_append];rfl
 . have f1:decide ((i:Int)<(N1.1.length:Nat))=false:=decide_eq_false (by omega)
   have ei:N1.1.take i=N1.1:=List.take_of_length_le (by omega)
   rw [show HDf l 3 A1.1 (.c (.slice none 0 0)) S1.1 N1.2 N1.1 i=HDf l 3 A1.1 (.c (.slice none 0 0)) S1.1 N1.2 N1.1 i from rfl]
   let vd:=sDfD 3 A1.1 [] S1.1 [] ((N1.1.take i).map mbOf) []
   have evd:vd=sDfD 3 A1.1 [] S1.1 [] (N1.1.map mbOf) []:=by show sDfD _ _ _ _ _ ((N1.1.take i).map mbOf) _=_;rw [ei]
   rw [<- evd]
   repeat' (first
|apply zAD (VDf vd) rfl rfl
 . conv=>lhs;whnf;arg 2;whnf
 . repeat' (first | exact VLe.refl _ | exact VLe.nil _ | exact VLe.lit _ _ | exact VLe.own _ _ _ | apply VLe.agg | apply VLeL.cons | exact VLeL.nil)
|apply zD
 . conv=>lhs;whnf
 . assumption
|refine zA ?_
|refine zB ?_
|refine zF ?_
|apply aw_1
 conv=>whnf
 refine ⟨?_,trivial⟩
|apply s_1
 conv=>whnf;arg 1;arg 4;arg 3;whnf
 refine ⟨?_,?_⟩
|apply zI rfl rfl rfl
 . conv=>lhs;whnf
 . conv=>lhs;whnf;arg 1;whnf
 . conv=>lhs;whnf;arg 1;whnf
 . exact ⟨by kernel_rfl,by kernel_rfl⟩
 . rfl
|refine zO ?_
|refine zQ ?_
|refine zL rfl ?_
|refine zM ?_
|refine zx ⟨?_,?_⟩
|refine ⟨_,by conv=>lhs;whnf;arg 2;whnf,?_⟩;conv=>rhs;whnf
|exact trivial)
   all_goals first
    |exact ⟨rfl,trivial⟩
    |rfl
    |skip
theorem defF_acb (x:RS) (hx:x.at'<l.length) (hnm:nmZ l x=true) (hk0:kindS (tkZ l x).s≠0):ACB EN5 Tryz.prog 30 [.bx (pn 0) 0] [boxF l x] (VDf (zAi l (kindS (tkZ l x).s) x).1) [boxF l (zAi l (kindS (tkZ l x).s) x).2]:=by
 have hk:=zEW (tkZ l x).s
 have h5:kindS (tkZ l x).s=1\/kindS (tkZ l x).s=2\/kindS (tkZ l x).s=3\/kindS (tkZ l x).s=4\/kindS (tkZ l x).s=5:=by omega
 rcases h5 with h | h | h | h | h
 . rw [h]
   cases hw:wdZ l zFj (nameZ l (upZ x)).2 with
   |true=>exact def1f_acb l hE hl hS x hx hnm h hw
   |false=>exact def1n_acb l hE hl hS x hx hnm h hw
 . rw [h];exact def2_acb l hE hl hS x hx hnm h
 . rw [h];exact def3_acb l hE hl hS x hx hnm h
 . rw [h];exact def4_acb l hE hl hS x hx hnm h
 . rw [h];exact def5_acb l hE hl hS x hx hnm h
end
end
section
open Go.RowKit
attribute [local irreducible] wpList Calls Code.wp
def sg0 (W:World):Sg:=⟨fun b o=>(W.cell? ⟨b,o,none⟩).isSome,fun _=>none,fun _=>none,fun _=>(undef,0)⟩
theorem zGR {P:Program} {w:World} {n:String} {g:Nat} {cs:Array Value} (hg:P.globalNamed n=some g) (h:w.var? P n=some cs):g+1<=w.heap.size:=by
 unfold World.var? at h
 rw [hg] at h
 simp only [Option.bind_some] at h
 rcases Nat.lt_or_ge g w.heap.size with h' | h'
 . exact h'
 . rw [Array.getElem?_eq_none h'] at h;cases h
theorem en5_of {W:World} (h:Env W):EN5.E W:=by
 obtain ⟨h1,⟨tp,p,h2⟩,⟨tp',p',h3⟩⟩:=id h
 have a1:=zGR gPow h1
 have a2:=zGR gErrR h2
 have a3:=zGR gErrS h3
 exact ⟨h,Nat.max_le.2 ⟨a1,Nat.max_le.2 ⟨a2,a3⟩⟩⟩
theorem zIk {f:FuncId} {args:List V} {W:World} {us:Array Value} (h:AC EN5 Tryz.prog f args (.c (.bool true))) (hr:relL Tryz.prog (sg0 W) W args us.toList) (he:Env W):Calls Tryz.prog f us W fun e W'=>e = .returned (.bool true)/\Below W.heap.size W W':=by
 refine (h (sg0 W) W us hr (fun b o h=>h) (en5_of he)).mono ?_
 rintro e W' ⟨v,F',rfl,hfr,-,-,-,hv⟩
 rw [rel] at hv
 obtain ⟨rfl,-⟩:=hv
 exact ⟨rfl,hfr.below⟩
theorem relL1 {P:Program} {s:Sg} {w:World} {v:V} {u:Value} (h:rel P s w v u):relL P s w [v] (#[u]:Array Value).toList:=by
 show relL P s w [v] [u]
 rw [relL];exact ⟨h,by simp [relL]⟩
end
section
open Go.RowKit
set_option linter.unusedSectionVars false
attribute [local irreducible] wpList Calls Code.wp AW AWo OpOk seqK zq zu loopK endK AC zf Yld Sub
attribute [local irreducible] ACB ACX ACE absLexG YldG absLexH
theorem let_iff (c:UInt8):letU c=true ↔ (97<=c.toNat/\c.toNat<=122)\/(65<=c.toNat/\c.toNat<=90)\/c.toNat=95:=by
 have:c=95 ↔ c.toNat=95:=⟨fun h=>by rw [h];rfl,fun h=>UInt8.toNat_inj.1 h⟩
 unfold letU
 simp only [Bool.or_eq_true,decide_eq_true_eq,beq_iff_eq,this]
 omega
theorem zAL (c:UInt8):AC EN5 Tryz.prog 79 [.c (.int .u8 (c.toNat:Int))] (.c (.bool (letU c))):=by
 refine zP 21 Tryz.func79 rfl rfl rfl rfl ?_
 intro s w he
 repeat' (first
|apply zz rfl rfl rfl
 . conv=>lhs;whnf
 . first | rfl | assumption
 . conv=>lhs;whnf
 . first | exact bT1 ‹_› | exact bT2 ‹_› | rfl
|apply zv rfl rfl rfl
 . conv=>lhs;whnf
 . first | rfl | assumption
 . conv=>lhs;whnf
 . first | exact bF1 ‹_› | exact bF2 ‹_› | rfl
|refine zA ?_
|refine zB ?_
|refine zF ?_
|apply aw_1
 conv=>whnf
 refine ⟨?_,trivial⟩
|apply zX rfl rfl
 . conv=>lhs;whnf
 . conv=>lhs;whnf
 . first | exact bT1 ‹_› | exact bT2 ‹_›
|apply zT rfl rfl
 . conv=>lhs;whnf
 . conv=>lhs;whnf
 . first | exact bF1 ‹_› | exact bF2 ‹_›
|apply s_1
 conv=>whnf;arg 1;arg 4;arg 3;whnf
 refine ⟨?_,?_⟩
|apply zC rfl
 . conv=>lhs;whnf
 . conv=>lhs;whnf
 . first | rfl | assumption
 . conv=>lhs;whnf;arg 2;whnf
|apply zW rfl
 . conv=>lhs;whnf
 . conv=>lhs;whnf
 . first | rfl | assumption
|apply zH rfl
 . conv=>lhs;whnf
 . conv=>lhs;whnf
 . conv=>lhs;whnf;arg 2;whnf
|refine zE ?_
|refine ⟨_,by conv=>lhs;whnf;arg 2;whnf,?_⟩;conv=>rhs;whnf
|exact trivial
|intro hg)
 all_goals
  refine congrArg (fun b=>V.c (.bool b)) ?_
  rw [Bool.eq_iff_iff,let_iff]
  clear he
  simp at *
  omega
theorem zAY (c:UInt8):AC EN5 Tryz.prog 81 [.c (.int .u8 (c.toNat:Int))] (.c (.bool (digU c))):=by
 refine zP 9 Tryz.func81 rfl rfl rfl rfl ?_
 intro s w he
 repeat' (first
|refine zA ?_
|refine zB ?_
|refine zF ?_
|apply aw_1
 conv=>whnf
 refine ⟨?_,trivial⟩
|apply zX rfl rfl
 . conv=>lhs;whnf
 . conv=>lhs;whnf
 . first | exact bT1 ‹_› | exact bT2 ‹_›
|apply zT rfl rfl
 . conv=>lhs;whnf
 . conv=>lhs;whnf
 . first | exact bF1 ‹_› | exact bF2 ‹_›
|apply s_1
 conv=>whnf;arg 1;arg 4;arg 3;whnf
 refine ⟨?_,?_⟩
|apply zC rfl
 . conv=>lhs;whnf
 . conv=>lhs;whnf
 . first | rfl | assumption
 . conv=>lhs;whnf;arg 2;whnf
|apply zW rfl
 . conv=>lhs;whnf
 . conv=>lhs;whnf
 . first | rfl | assumption
|apply zH rfl
 . conv=>lhs;whnf
 . conv=>lhs;whnf
 . conv=>lhs;whnf;arg 2;whnf
|refine zE ?_
|refine ⟨_,by conv=>lhs;whnf;arg 2;whnf,?_⟩;conv=>rhs;whnf
|exact trivial
|intro hg)
 all_goals
  refine congrArg (fun b=>V.c (.bool b)) ?_
  rw [Bool.eq_iff_iff,zBS]
  clear he
  simp at *
  omega
theorem sep_iff (c:UInt8):sepB c=true ↔ c.toNat=32\/c.toNat=9\/c.toNat=10\/c.toNat=13\/c.toNat=44:=by
 have q : ∀ n:UInt8,(c==n)=true ↔ c.toNat=n.toNat:=fun n=>by rw [beq_iff_eq];exact ⟨fun h=>by rw [h],fun h=>UInt8.toNat_inj.1 h⟩
 unfold sepB
 simp only [Bool.or_eq_true,q]
 show (((c.toNat=32\/c.toNat=9)\/c.toNat=10)\/c.toNat=13)\/c.toNat=44 ↔ _
 omega
theorem spaceF_ac (c:UInt8):AC EN5 Tryz.prog 77 [.c (.int .u8 (c.toNat:Int))] (.c (.bool (sepB c))):=by
 refine zP 21 Tryz.func77 rfl rfl rfl rfl ?_
 intro s w he
 repeat' (first
|refine zA ?_
|refine zB ?_
|refine zF ?_
|apply aw_1
 conv=>whnf
 refine ⟨?_,trivial⟩
|apply zX rfl rfl
 . conv=>lhs;whnf
 . conv=>lhs;whnf
 . first | exact bT1 ‹_› | exact bT2 ‹_›
|apply zT rfl rfl
 . conv=>lhs;whnf
 . conv=>lhs;whnf
 . first | exact bF1 ‹_› | exact bF2 ‹_›
|apply s_1
 conv=>whnf;arg 1;arg 4;arg 3;whnf
 refine ⟨?_,?_⟩
|apply zC rfl
 . conv=>lhs;whnf
 . conv=>lhs;whnf
 . first | rfl | assumption
 . conv=>lhs;whnf;arg 2;whnf
|apply zW rfl
 . conv=>lhs;whnf
 . conv=>lhs;whnf
 . first | rfl | assumption
|apply zH rfl
 . conv=>lhs;whnf
 . conv=>lhs;whnf
 . conv=>lhs;whnf;arg 2;whnf
|refine zE ?_
|refine ⟨_,by conv=>lhs;whnf;arg 2;whnf,?_⟩;conv=>rhs;whnf
|exact trivial
|intro hg)
 all_goals
  refine congrArg (fun b=>V.c (.bool b)) ?_
  rw [Bool.eq_iff_iff,sep_iff]
  clear he
  simp at *
  omega
noncomputable def HWdG (s:List UInt8) (k:Nat):Vst 24:=stS 24 [(0,.c (.string (bs s))),(1,.c (.int .i64 (k:Int)))] []
theorem zEL (s:List UInt8) (i:Nat) (hi:i<=s.length) (hs:s.length<=1000000):AC EN5 Tryz.prog 80 [.c (.string (bs s)),.c (.int .i64 (i:Int))] (.c (.int .i64 ((i+spanN wrdU (s.drop i):Nat):Int))):=by
 have hz:=zk s
 refine zP 24 Tryz.func80 rfl rfl rfl rfl ?_
 intro s0 w he
 repeat' (first
|refine zA ?_
|refine zB ?_
|refine zF ?_
|apply aw_1
 conv=>whnf
 refine ⟨?_,trivial⟩
|apply s_1
 conv=>whnf;arg 1;arg 4;arg 3;whnf
 refine ⟨?_,?_⟩
|exact trivial)
 refine zn (fun j st => ∃ k,k+j=s.length/\i+spanN wrdU (s.drop i)=k+spanN wrdU (s.drop k)/\Sub (cx EN5 Tryz.prog s0 w he) st (HWdG s k)) (s.length-i) ⟨i,by omega,rfl,Sub.live ⟨rfl,rfl,trivial⟩ trivial⟩ ?_
 rintro j st ⟨k,hkj,hI,hs2⟩
 refine zg hs2 ?_
 clear hs2
 rw [hI]
 clear hI
 by_cases hk:k<s.length
 . have f0:decide ((k:Int)<((bs s).size:Nat))=true:=decide_eq_true (by omega)
   have g0:(decide ((k:Int)<((bs s).size:Nat))==true)=true:=by rw [f0];rfl
   have k0:(decide ((k:Int)<((bs s).size:Nat))==true)=false->False:=fun h=>by rw [g0] at h;cases h
   have hbt:=zAK hk
   have hsp:=zI1 (p:=wrdU) hk
   have h1:=zAL s[k]
   have h2:=zAY s[k]
   rw [<- hbt] at h1 h2
   have hw:wrdU s[k]=(letU s[k]||digU s[k]):=rfl
   rw [hw] at hsp
   generalize letU s[k]=a at h1 hsp
   generalize digU s[k]=b at h2 hsp
   clear hbt hw
   repeat' (first
|apply zz rfl rfl rfl
 . conv=>lhs;whnf
 . first | rfl | assumption
 . conv=>lhs;whnf
 . first | exact bT1 ‹_› | exact bT2 ‹_› | rfl
|apply zv rfl rfl rfl
 . conv=>lhs;whnf
 . first | rfl | assumption
 . conv=>lhs;whnf
 . first | exact bF1 ‹_› | exact bF2 ‹_› | rfl
|refine zA ?_
|refine zB ?_
|refine zF ?_
|refine zZ ?_
|apply aw_1
 conv=>whnf
 refine ⟨?_,trivial⟩
|apply zX rfl rfl
 . conv=>lhs;whnf
 . conv=>lhs;whnf
 . first | exact bT1 ‹_› | exact bT2 ‹_›
|apply s_1
 conv=>whnf;arg 1;arg 4;arg 3;whnf
 refine ⟨?_,?_⟩
|apply zC rfl
 . conv=>lhs;whnf
 . conv=>lhs;whnf
 . first | rfl | assumption
 . conv=>lhs;whnf;arg 2;whnf
|apply zh rfl
 . conv=>lhs;whnf
 . conv=>lhs;whnf
 . first | rfl | assumption
 . conv=>lhs;whnf
 . first | exact h1 | exact h2
|apply zW rfl
 . conv=>lhs;whnf
 . conv=>lhs;whnf
 . first | rfl | assumption
|apply zH rfl
 . conv=>lhs;whnf
 . conv=>lhs;whnf
 . conv=>lhs;whnf;arg 2;whnf
|refine ze (by conv=>lhs;whnf) ?_ ?_<;>intro hb
|refine zO ?_
|refine zL rfl ?_
|refine zM ?_
|refine zE ?_
|refine ⟨_,by conv=>lhs;whnf;arg 2;whnf,?_⟩;conv=>rhs;whnf
|exact trivial
|intro hg)
   all_goals first
    |exact zU (by omega)
    |exact ⟨by kernel_rfl,by omega,by omega⟩
    |exact (show Tryz.prog.underlying 9=some TypeDesc.string by kernel_rfl)
    |(have e:(a||b)=true:=by
       clear hsp h1 h2
       simp_all
      exact zJ (j':=j-1) (by omega) ⟨k+1,by omega,by rw [hsp,if_pos e];omega,Sub.live ⟨rfl,rfl,trivial⟩ trivial⟩)
    |(have e:(a||b)=false:=by
       clear hsp h1 h2
       simp_all
      rw [hsp,e];rfl)
    |skip
 . have f0:decide ((k:Int)<((bs s).size:Nat))=false:=decide_eq_false (by omega)
   have g0:(decide ((k:Int)<((bs s).size:Nat))==true)=false:=by rw [f0];rfl
   have k0:(decide ((k:Int)<((bs s).size:Nat))==true)=true->False:=fun h=>by rw [g0] at h;cases h
   have e:spanN wrdU (s.drop k)=0:=by rw [show k=s.length by omega,List.drop_length];rfl
   rw [e]
   repeat' (first
|refine zA ?_
|refine zB ?_
|refine zF ?_
|apply aw_1
 conv=>whnf
 refine ⟨?_,trivial⟩
|apply zT rfl rfl
 . conv=>lhs;whnf
 . conv=>lhs;whnf
 . first | exact bF1 ‹_› | exact bF2 ‹_›
|apply s_1
 conv=>whnf;arg 1;arg 4;arg 3;whnf
 refine ⟨?_,?_⟩
|apply zW rfl
 . conv=>lhs;whnf
 . conv=>lhs;whnf
 . first | rfl | assumption
|refine zO ?_
|refine zL rfl ?_
|refine zM ?_
|refine zE ?_
|refine ⟨_,by conv=>lhs;whnf;arg 2;whnf,?_⟩;conv=>rhs;whnf
|exact trivial)
   all_goals first
    |rfl
    |exact (show Tryz.prog.underlying 9=some TypeDesc.string by kernel_rfl)
theorem zJw {s:List UInt8} {k:Nat} (h:k<s.length):skipM true (s.drop k)=if s[k]==10||s[k]==13 then skipM false (s.drop (k+1))+1 else skipM true (s.drop (k+1))+1:=by
 rw [List.drop_eq_getElem_cons h,skipM]
noncomputable def HKf (s:List UInt8) (k:Nat):Vst 39:=stS 39 [(0,.c (.string (bs s))),(1,.c (.int .i64 (k:Int)))] []
theorem zJx (s:List UInt8) (i:Nat) (hi:i<=s.length) (hs:s.length<=1000000):AC EN5 Tryz.prog 36 [.c (.string (bs s)),.c (.int .i64 (i:Int))] (.c (.int .i64 ((i+skipM false (s.drop i):Nat):Int))):=by
 have hz:=zk s
 refine zP 39 Tryz.func36 rfl rfl rfl rfl ?_
 intro s0 w he
 repeat' (first
|refine zA ?_
|refine zB ?_
|refine zF ?_
|apply aw_1
 conv=>whnf
 refine ⟨?_,trivial⟩
|apply s_1
 conv=>whnf;arg 1;arg 4;arg 3;whnf
 refine ⟨?_,?_⟩
|exact trivial)
 refine zn (fun j st => ∃ k,k+j=s.length/\i+skipM false (s.drop i)=k+skipM false (s.drop k)/\Sub (cx EN5 Tryz.prog s0 w he) st (HKf s k)) (s.length-i) ⟨i,by omega,rfl,Sub.live ⟨rfl,rfl,trivial⟩ trivial⟩ ?_
 rintro j st ⟨k,hkj,hI,hs2⟩
 refine zg hs2 ?_
 clear hs2
 rw [hI]
 clear hI
 by_cases hk:k<s.length
 . have f0:decide ((k:Int)<((bs s).size:Nat))=true:=decide_eq_true (by omega)
   have hbt:=zAK hk
   have hsk:=zI4 hk
   have h1:=spaceF_ac s[k]
   rw [<- hbt] at h1
   have q : ∀ n:Nat,n<256->(zR (bs s) ((k:Int)).toNat==(n:Int))=(s[k]==UInt8.ofNat n):=fun n hn=>by rw [hbt];exact zBI s[k] n hn
   have q35:=q 35 (by decide)
   by_cases hsep:sepB s[k]=true
   . rw [if_pos hsep] at hsk
     repeat' (first
|apply zG
 . conv=>lhs;whnf
 . assumption
|refine zA ?_
|refine zB ?_
|refine zF ?_
|apply aw_1
 conv=>whnf
 refine ⟨?_,trivial⟩
|apply s_1
 conv=>whnf;arg 1;arg 4;arg 3;whnf
 refine ⟨?_,?_⟩
|apply zi rfl
 . conv=>lhs;whnf
 . conv=>lhs;whnf
 . first | exact h1
|refine zO ?_
|refine zL rfl ?_
|exact trivial)
     all_goals first
      |exact zU (by omega)
      |exact ⟨by kernel_rfl,by omega,by omega⟩
      |exact (show Tryz.prog.underlying 9=some TypeDesc.string by kernel_rfl)
      |exact zJ (j':=j-1) (by omega) ⟨k+1,by omega,by rw [hsk];omega,Sub.live ⟨rfl,rfl,trivial⟩ trivial⟩
      |skip
   . have f1:sepB s[k]=false:=by simpa using hsep
     rw [if_neg hsep] at hsk
     by_cases h35:(s[k]==35)=true
     . rw [if_pos h35] at hsk
       have f2:(zR (bs s) ((k:Int)).toNat != 35)=false:=by
        have:(zR (bs s) ((k:Int)).toNat==((35:Nat):Int))=true:=q35.trans h35
        simpa using this
       repeat' (first
|apply zG
 . conv=>lhs;whnf
 . assumption
|apply zD
 . conv=>lhs;whnf
 . assumption
|refine zA ?_
|refine zB ?_
|refine zF ?_
|apply aw_1
 conv=>whnf
 refine ⟨?_,trivial⟩
|apply s_1
 conv=>whnf;arg 1;arg 4;arg 3;whnf
 refine ⟨?_,?_⟩
|apply zi rfl
 . conv=>lhs;whnf
 . conv=>lhs;whnf
 . first | exact h1
|exact trivial)
       all_goals first
        |exact ⟨by kernel_rfl,by omega,by omega⟩
        |exact (show Tryz.prog.underlying 9=some TypeDesc.string by kernel_rfl)
        |skip
       have hnn:(s[k]==10||s[k]==13)=false:=by
        have:s[k]=35:=by simpa using h35
        rw [this];rfl
       have hT:k+skipM false (s.drop k)=k+skipM true (s.drop k):=by rw [hsk,zJw hk,hnn];rfl
       rw [hT]
       refine zn (fun jj st => ∃ m,m+jj=s.length/\k<=m/\k+skipM true (s.drop k)=m+skipM true (s.drop m)/\Sub (cx EN5 Tryz.prog s0 w he) st (HKf s m)) (s.length-k) ⟨k,by omega,Nat.le_refl _,rfl,Sub.live ⟨rfl,rfl,trivial⟩ trivial⟩ ?_
       clear hT hsk f0 f1 f2 hbt q q35 h1
       rintro jj st ⟨m,hmj,hkm,hI,hs2⟩
       refine zg hs2 ?_
       clear hs2
       rw [hI]
       clear hI
       by_cases hm:m<s.length
       . have f0:decide ((m:Int)<((bs s).size:Nat))=true:=decide_eq_true (by omega)
         have g0:(decide ((m:Int)<((bs s).size:Nat))==true)=true:=by rw [f0];rfl
         have k0:(decide ((m:Int)<((bs s).size:Nat))==true)=false->False:=fun h=>by rw [g0] at h;cases h
         have hbt:=zAK hm
         have hsk:=zJw hm
         have q : ∀ n:Nat,n<256->(zR (bs s) ((m:Int)).toNat==(n:Int))=(s[m]==UInt8.ofNat n):=fun n hn=>by rw [hbt];exact zBI s[m] n hn
         have q10:(zR (bs s) ((m:Int)).toNat != 10) = !(s[m]==10):=congrArg not (q 10 (by decide))
         have q13:(zR (bs s) ((m:Int)).toNat != 13) = !(s[m]==13):=congrArg not (q 13 (by decide))
         have hsm:=zI4 hm
         have hmk:m=k->(s[m]==10||s[m]==13)=false:=fun e=>by subst e;exact hnn
         have hnl:(s[m]==10||s[m]==13)=true->sepB s[m]=true:=fun h=>by
          rw [Bool.or_eq_true,beq_iff_eq,beq_iff_eq] at h
          rcases h with h | h<;>rw [h]<;>rfl
         generalize (s[m]==10)=a at q10 hsk hmk hnl
         generalize (s[m]==13)=b at q13 hsk hmk hnl
         clear hbt q
         repeat' (first
|refine zA ?_
|refine zB ?_
|refine zF ?_
|refine zZ ?_
|apply aw_1
 conv=>whnf
 refine ⟨?_,trivial⟩
|apply zX rfl rfl
 . conv=>lhs;whnf
 . conv=>lhs;whnf
 . first | exact bT1 ‹_› | exact bT2 ‹_›
|apply zT rfl rfl
 . conv=>lhs;whnf
 . conv=>lhs;whnf
 . first | exact bF1 ‹_› | exact bF2 ‹_›
|apply s_1
 conv=>whnf;arg 1;arg 4;arg 3;whnf
 refine ⟨?_,?_⟩
|apply zC rfl
 . conv=>lhs;whnf
 . conv=>lhs;whnf
 . first | rfl | assumption
 . conv=>lhs;whnf;arg 2;whnf
|apply zW rfl
 . conv=>lhs;whnf
 . conv=>lhs;whnf
 . first | rfl | assumption
|apply zH rfl
 . conv=>lhs;whnf
 . conv=>lhs;whnf
 . conv=>lhs;whnf;arg 2;whnf
|refine ze (by conv=>lhs;whnf) ?_ ?_<;>intro hb
|refine zO ?_
|refine zL rfl ?_
|refine zM ?_
|exact trivial
|intro hg)
         all_goals first
          |exact zU (by omega)
          |exact ⟨by kernel_rfl,by omega,by omega⟩
          |exact (show Tryz.prog.underlying 9=some TypeDesc.string by kernel_rfl)
          |skip
         all_goals simp only [q10,q13] at *
         . have e:(a||b)=false:=by simp_all
           exact zJ (j':=jj-1) (by omega) ⟨m+1,by omega,by omega,by rw [hsk,if_neg (by rw [e];decide)];omega,Sub.live ⟨rfl,rfl,trivial⟩ trivial⟩
         all_goals
          have e:(a||b)=true:=by simp_all
          have hmk2:k<m:=Nat.lt_of_le_of_ne hkm fun h=>by rw [hmk h.symm] at e;cases e
          exact zJ (j':=s.length-m) (by omega) ⟨m,by omega,by rw [hsk,if_pos e,hsm,if_pos (hnl e)],Sub.live ⟨rfl,rfl,trivial⟩ trivial⟩
       . have f0:decide ((m:Int)<((bs s).size:Nat))=false:=decide_eq_false (by omega)
         have g0:(decide ((m:Int)<((bs s).size:Nat))==true)=false:=by rw [f0];rfl
         have k0:(decide ((m:Int)<((bs s).size:Nat))==true)=true->False:=fun h=>by rw [g0] at h;cases h
         repeat' (first
|refine zA ?_
|refine zB ?_
|refine zF ?_
|refine zZ ?_
|apply aw_1
 conv=>whnf
 refine ⟨?_,trivial⟩
|apply zT rfl rfl
 . conv=>lhs;whnf
 . conv=>lhs;whnf
 . first | exact bF1 ‹_› | exact bF2 ‹_›
|apply s_1
 conv=>whnf;arg 1;arg 4;arg 3;whnf
 refine ⟨?_,?_⟩
|apply zW rfl
 . conv=>lhs;whnf
 . conv=>lhs;whnf
 . first | rfl | assumption
|refine zO ?_
|refine zL rfl ?_
|refine zM ?_
|exact trivial)
         all_goals first
          |exact (show Tryz.prog.underlying 9=some TypeDesc.string by kernel_rfl)
          |exact zJ (j':=0) (by omega) ⟨m,by omega,by rw [show m=s.length by omega,List.drop_length];rfl,Sub.live ⟨rfl,rfl,trivial⟩ trivial⟩
     . rw [if_neg h35] at hsk
       have f2:(zR (bs s) ((k:Int)).toNat != 35)=true:=by
        have:(zR (bs s) ((k:Int)).toNat==((35:Nat):Int))=false:=q35.trans (by simpa using h35)
        simpa using this
       repeat' (first
|apply zG
 . conv=>lhs;whnf
 . assumption
|apply zD
 . conv=>lhs;whnf
 . assumption
|refine zA ?_
|refine zB ?_
|refine zF ?_
|apply aw_1
 conv=>whnf
 refine ⟨?_,trivial⟩
|apply s_1
 conv=>whnf;arg 1;arg 4;arg 3;whnf
 refine ⟨?_,?_⟩
|apply zi rfl
 . conv=>lhs;whnf
 . conv=>lhs;whnf
 . first | exact h1
|refine zQ ?_
|refine zV ?_
|refine zw ?_
|refine zE ?_
|refine ⟨_,by conv=>lhs;whnf;arg 2;whnf,?_⟩;conv=>rhs;whnf
|exact trivial)
       all_goals first
        |exact ⟨by kernel_rfl,by omega,by omega⟩
        |exact (show Tryz.prog.underlying 9=some TypeDesc.string by kernel_rfl)
        |(rw [hsk];rfl)
 . have f0:decide ((k:Int)<((bs s).size:Nat))=false:=decide_eq_false (by omega)
   have e:skipM false (s.drop k)=0:=by rw [show k=s.length by omega,List.drop_length];rfl
   rw [e]
   repeat' (first
|apply zD
 . conv=>lhs;whnf
 . assumption
|refine zA ?_
|refine zB ?_
|refine zF ?_
|apply aw_1
 conv=>whnf
 refine ⟨?_,trivial⟩
|apply s_1
 conv=>whnf;arg 1;arg 4;arg 3;whnf
 refine ⟨?_,?_⟩
|refine zO ?_
|refine zL rfl ?_
|refine zM ?_
|refine zE ?_
|refine ⟨_,by conv=>lhs;whnf;arg 2;whnf,?_⟩;conv=>rhs;whnf
|exact trivial)
   all_goals first
    |rfl
    |exact (show Tryz.prog.underlying 9=some TypeDesc.string by kernel_rfl)
def signsL:List UInt8:=[33,36,38,40,41,58,61,64,91,93,123,124,125]
noncomputable def HSg (c:UInt8) (k:Nat):Vst 16:=stS 16 [(0,.c (.int .u8 (c.toNat:Int))),(3,.c (.string { data:=#[33,36,38,40,41,58,61,64,91,93,123,124,125] })),(4,.c (.int .i64 (k:Int)))] []
theorem byte_sg {k:Nat} (h:k<signsL.length):zR ({ data:=#[33,36,38,40,41,58,61,64,91,93,123,124,125] }:ByteArray) ((k:Int)).toNat=(signsL[k].toNat:Int):=zAK (s:=signsL) h
theorem u8_same (a b:UInt8):(((a.toNat:Nat):Int)==((b.toNat:Nat):Int))=(a==b):=by
 rw [Bool.eq_iff_iff,beq_iff_eq,beq_iff_eq]
 exact ⟨fun h=>UInt8.toNat_inj.1 (by omega),fun h=>by rw [h]⟩
theorem zAy (c:UInt8):AC EN5 Tryz.prog 78 [.c (.int .u8 (c.toNat:Int))] (.c (.bool (signB c))):=by
 have hR:signB c=(signsL.drop 0).contains c:=rfl
 generalize signB c=R at hR |-
 refine zP 16 Tryz.func78 rfl rfl rfl rfl ?_
 intro s0 w he
 repeat' (first
|refine zA ?_
|refine zB ?_
|refine zF ?_
|apply aw_1
 conv=>whnf
 refine ⟨?_,trivial⟩
|apply s_1
 conv=>whnf;arg 1;arg 4;arg 3;whnf
 refine ⟨?_,?_⟩
|exact trivial)
 refine zn (fun j st => ∃ k,k+j=13/\R=(signsL.drop k).contains c/\Sub (cx EN5 Tryz.prog s0 w he) st (HSg c k)) 13 ⟨0,by omega,hR,Sub.live ⟨rfl,rfl,rfl,trivial⟩ trivial⟩ ?_
 clear hR
 rintro j st ⟨k,hkj,hR,hs2⟩
 refine zg hs2 ?_
 clear hs2
 have hz:(({ data:=#[33,36,38,40,41,58,61,64,91,93,123,124,125] }:ByteArray).size:Int)=13:=rfl
 have hlen:signsL.length=13:=rfl
 by_cases hk:k<13
 . have f0:decide ((k:Int)<(({ data:=#[33,36,38,40,41,58,61,64,91,93,123,124,125] }:ByteArray).size:Nat))=true:=decide_eq_true (by rw [hz];omega)
   have hk2:k<signsL.length:=by omega
   have hbt:=byte_sg hk2
   have hd:signsL.drop k=signsL[k]::signsL.drop (k+1):=List.drop_eq_getElem_cons hk2
   rw [hd,List.contains_cons] at hR
   have hq:(zR ({ data:=#[33,36,38,40,41,58,61,64,91,93,123,124,125] }:ByteArray) ((k:Int)).toNat==((c.toNat:Nat):Int))=(c==signsL[k]):=by
    rw [hbt,u8_same,Bool.eq_iff_iff,beq_iff_eq,beq_iff_eq];exact eq_comm
   generalize (c==signsL[k])=a at hq hR
   repeat' (first
|apply zG
 . conv=>lhs;whnf
 . assumption
|refine zA ?_
|refine zB ?_
|refine zF ?_
|refine zZ ?_
|apply aw_1
 conv=>whnf
 refine ⟨?_,trivial⟩
|apply s_1
 conv=>whnf;arg 1;arg 4;arg 3;whnf
 refine ⟨?_,?_⟩
|refine ze (by conv=>lhs;whnf) ?_ ?_<;>intro hb
|refine zQ ?_
|refine zV ?_
|refine zw ?_
|refine zE ?_
|refine ⟨_,by conv=>lhs;whnf;arg 2;whnf,?_⟩;conv=>rhs;whnf
|exact trivial)
   all_goals first
    |exact zU (by omega)
    |exact ⟨by kernel_rfl,by omega,by rw [hz];omega⟩
    |exact (show Tryz.prog.underlying 9=some TypeDesc.string by kernel_rfl)
    |(have e:a=true:=by rw [<- hq];assumption
      rw [hR,e];rfl)
    |(have e:a=false:=by rw [<- hq];assumption
      exact zJ (j':=j-1) (by omega) ⟨k+1,by omega,by rw [hR,e,Bool.false_or],Sub.live ⟨rfl,rfl,rfl,trivial⟩ trivial⟩)
    |skip
 . have f0:decide ((k:Int)<(({ data:=#[33,36,38,40,41,58,61,64,91,93,123,124,125] }:ByteArray).size:Nat))=false:=decide_eq_false (by rw [hz];omega)
   have e:signsL.drop k=[]:=List.drop_of_length_le (by omega)
   rw [e] at hR
   repeat' (first
|apply zD
 . conv=>lhs;whnf
 . assumption
|refine zA ?_
|refine zB ?_
|refine zF ?_
|apply aw_1
 conv=>whnf
 refine ⟨?_,trivial⟩
|apply s_1
 conv=>whnf;arg 1;arg 4;arg 3;whnf
 refine ⟨?_,?_⟩
|refine zO ?_
|refine zL rfl ?_
|refine zM ?_
|refine zE ?_
|refine ⟨_,by conv=>lhs;whnf;arg 2;whnf,?_⟩;conv=>rhs;whnf
|exact trivial)
   all_goals first
    |(rw [hR];rfl)
    |exact (show Tryz.prog.underlying 9=some TypeDesc.string by kernel_rfl)
def zG3 (s:List UInt8) (k:Nat):Int:=match litN (s.drop k) with
 |none => -1
 |some n=>((k+n:Nat):Int)
theorem litW_V (s:List UInt8) (i:Nat):zG3 s (i+1)=litV s i:=rfl
theorem litW_end {s:List UInt8} {k:Nat} (h:s.length<=k):zG3 s k = -1:=by
 unfold zG3
 rw [List.drop_of_length_le h];rfl
theorem litW_at {s:List UInt8} {k:Nat} (h:k<s.length):zG3 s k=if s[k]==34 then ((k:Int)+1) else if s[k]==92 then zG3 s (k+2) else zG3 s (k+1):=by
 unfold zG3
 rw [List.drop_eq_getElem_cons h]
 by_cases h34:(s[k]==34)=true
 . rw [if_pos h34]
   cases hr:s.drop (k+1) with
   |nil=>simp only [litN,h34,if_true];omega
   |cons d r=>simp only [litN,h34,if_true];omega
 . rw [if_neg h34]
   cases hr:s.drop (k+1) with
   |nil =>
    have h2:s.drop (k+2)=[]:=List.drop_of_length_le (by have:=congrArg List.length hr;rw [List.length_drop] at this;simp at this;omega)
    rw [h2]
    simp only [litN,h34]
    by_cases h92:(s[k]==92)=true<;>simp [h92]
   |cons d r =>
    have h2:s.drop (k+2)=r:=by rw [show k+2=(k+1)+1 by omega,<- List.drop_drop,hr];rfl
    rw [h2]
    simp only [litN,h34]
    by_cases h92:(s[k]==92)=true
    . rw [if_pos h92,if_pos h92]
      cases litN r with
      |none=>rfl
      |some n=>simp only [Option.map_some,Bool.false_eq_true,if_false];congr 1;omega
    . rw [if_neg h92,if_neg h92]
      cases litN (d::r) with
      |none=>rfl
      |some n=>simp only [Option.map_some,Bool.false_eq_true,if_false];congr 1;omega
noncomputable def HCl (s:List UInt8) (k:Nat):Vst 25:=stS 25 [(0,.c (.string (bs s))),(1,.c (.int .i64 (k:Int)))] []
theorem zFR (s:List UInt8) (i:Nat) (hi:i<s.length) (hs:s.length<=1000000):AC EN5 Tryz.prog 83 [.c (.string (bs s)),.c (.int .i64 (i:Int))] (.c (.int .i64 (litV s i))):=by
 have hz:=zk s
 rw [<- litW_V]
 generalize hR:zG3 s (i+1)=R
 refine zP 25 Tryz.func83 rfl rfl rfl rfl ?_
 intro s0 w he
 repeat' (first
|refine zA ?_
|refine zB ?_
|refine zF ?_
|apply aw_1
 conv=>whnf
 refine ⟨?_,trivial⟩
|apply s_1
 conv=>whnf;arg 1;arg 4;arg 3;whnf
 refine ⟨?_,?_⟩
|exact trivial)
 . refine zn (fun j st => ∃ k,k+j=s.length+2/\R=zG3 s k/\Sub (cx EN5 Tryz.prog s0 w he) st (HCl s k)) (s.length+1-i) ⟨i+1,by omega,hR.symm,Sub.live ⟨rfl,rfl,trivial⟩ trivial⟩ ?_
   clear hR
   rintro j st ⟨k,hkj,hR,hs2⟩
   refine zg hs2 ?_
   clear hs2
   by_cases hk:k<s.length
   . have f0:decide ((k:Int)<((bs s).size:Nat))=true:=decide_eq_true (by omega)
     have hbt:=zAK hk
     have q : ∀ n:Nat,n<256->(zR (bs s) ((k:Int)).toNat==(n:Int))=(s[k]==UInt8.ofNat n):=fun n hn=>by rw [hbt];exact zBI s[k] n hn
     have q34:(zR (bs s) ((k:Int)).toNat==34)=(s[k]==34):=q 34 (by decide)
     have q92:(zR (bs s) ((k:Int)).toNat==92)=(s[k]==92):=q 92 (by decide)
     rw [litW_at hk] at hR
     generalize (s[k]==34)=a at q34 hR
     generalize (s[k]==92)=b at q92 hR
     clear q hbt
     repeat' (first
|apply zG
 . conv=>lhs;whnf
 . assumption
|refine zA ?_
|refine zB ?_
|refine zF ?_
|refine zZ ?_
|apply aw_1
 conv=>whnf
 refine ⟨?_,trivial⟩
|apply s_1
 conv=>whnf;arg 1;arg 4;arg 3;whnf
 refine ⟨?_,?_⟩
|refine ze (by conv=>lhs;whnf) ?_ ?_<;>intro hb
|refine zQ ?_
|refine zV ?_
|refine zw ?_
|refine zE ?_
|refine ⟨_,by conv=>lhs;whnf;arg 2;whnf,?_⟩;conv=>rhs;whnf
|exact trivial)
     all_goals first
      |exact zU (by omega)
      |exact ⟨by kernel_rfl,by omega,by omega⟩
      |exact (show Tryz.prog.underlying 9=some TypeDesc.string by kernel_rfl)
      |skip
     . have e:a=true:=by rw [<- q34];assumption
       rw [e,if_pos rfl] at hR
       exact congrArg (fun n=>V.c (.int .i64 n)) hR
     . have e:a=false:=by rw [<- q34];assumption
       have e2:b=true:=by rw [<- q92];assumption
       rw [e,e2,if_neg (by decide),if_pos rfl] at hR
       exact zJ (j':=j-2) (by omega) ⟨k+2,by omega,hR,Sub.live ⟨rfl,congrArg (fun n=>V.c (.int .i64 n)) (show (k:Int)+1+1=((k+2:Nat):Int) by omega),trivial⟩ trivial⟩
     . have e:a=false:=by rw [<- q34];assumption
       have e2:b=false:=by rw [<- q92];assumption
       rw [e,e2,if_neg (by decide),if_neg (by decide)] at hR
       exact zJ (j':=j-1) (by omega) ⟨k+1,by omega,hR,Sub.live ⟨rfl,rfl,trivial⟩ trivial⟩
   . have f0:decide ((k:Int)<((bs s).size:Nat))=false:=decide_eq_false (by omega)
     rw [litW_end (by omega)] at hR
     repeat' (first
|apply zD
 . conv=>lhs;whnf
 . assumption
|refine zA ?_
|refine zB ?_
|refine zF ?_
|apply aw_1
 conv=>whnf
 refine ⟨?_,trivial⟩
|apply s_1
 conv=>whnf;arg 1;arg 4;arg 3;whnf
 refine ⟨?_,?_⟩
|refine zO ?_
|refine zL rfl ?_
|refine zM ?_
|refine zE ?_
|refine ⟨_,by conv=>lhs;whnf;arg 2;whnf,?_⟩;conv=>rhs;whnf
|exact trivial)
     all_goals first
      |exact congrArg (fun n=>V.c (.int .i64 n)) hR
      |exact (show Tryz.prog.underlying 9=some TypeDesc.string by kernel_rfl)
 . exact zU (by omega)
end
section
open Go.RowKit
set_option linter.unusedSectionVars false
attribute [local irreducible] wpList Calls Code.wp AW AWo OpOk seqK zq zu loopK endK AC zf Yld Sub
attribute [local irreducible] ACB ACX ACE absLexG YldG
def tupR (t:Tok) (k:Nat) (e:Int):V:=.tup [.agg (tokC t),.c (.int .i64 (k:Int)),.c (.int .i64 e)]
def failR:V:=tupR ⟨0,[],0⟩ 0 3
def readV (l:List UInt8) (i:Nat):V:=
 match l with
 |[] => .any
 |c::r =>
  if signB c then tupR ⟨1,[c],i⟩ (i+1) 0
  else if c==46 then (if r.take 2=[46,46] then tupR ⟨1,[46,46,46],i⟩ (i+3) 0 else failR)
  else if c==45||digU c then tupR ⟨3,c::r.take (spanN wrdU r),i⟩ (i+1+spanN wrdU r) (nerU (numU (c::r.take (spanN wrdU r))))
  else if wrdU c then (if spanN wrdU r+1>64 then failR else tupR ⟨2,c::r.take (spanN wrdU r),i⟩ (i+1+spanN wrdU r) 0)
  else if c==34 then
   (match litN r with
   |none=>failR
   |some n=>tupR ⟨4,(unquoteU (c::r.take n)).getD [],i⟩ (i+1+n) (uqE (unquoteU (c::r.take n))))
  else failR
theorem zCi (s:List UInt8) {a b:Nat} (ha:a<=b) (hb:b<=s.length):(bs s).extract a b=bs ((s.drop a).take (b-a)):=by
 apply ByteArray.ext
 rw [ByteArray.data_extract]
 apply Array.ext'
 rw [Array.toList_extract,zAH,zAH]
section
variable {s:List UInt8} {i:Nat} (hi:i<s.length) (hs:s.length<=70000)
include hi hs
theorem read_sign (h:signB s[i]=true):AC EN5 Tryz.prog 47 [.c (.string (bs s)),.c (.int .i64 (i:Int))] (tupR ⟨1,[s[i]],i⟩ (i+1) 0):=by
 have hz:=zk s
 have hbt:=zAK hi
 have hgd:=zEK hi
 have hdr:s.drop i=s[i]::s.drop (i+1):=List.drop_eq_getElem_cons hi
 have q : ∀ n:Nat,n<256->(zR (bs s) ((i:Int)).toNat==(n:Int))=(s[i]==UInt8.ofNat n):=fun n hn=>by rw [hbt];exact zBI _ n hn
 have hsg:=zAI ((bs s).data.toList.getD ((i:Int)).toNat 0)
 have f0:signB ((bs s).data.toList.getD ((i:Int)).toNat 0)=true:=by rw [Int.toNat_natCast,hgd];exact h
 have hx:(bs s).extract ((i:Int)).toNat (((i:Int)+1)).toNat=bs [s[i]]:=by
  rw [show (((i:Int)+1)).toNat=i+1 by omega,Int.toNat_natCast,zCi s (by omega) (by omega),hdr,Nat.add_sub_cancel_left];rfl
 refine zP 116 Tryz.func47 rfl rfl rfl rfl ?_
 intro s0 w he
 repeat' (first
|apply zG
 . conv=>lhs;whnf
 . assumption
|refine zA ?_
|refine zB ?_
|refine zF ?_
|apply aw_1
 conv=>whnf
 refine ⟨?_,trivial⟩
|apply s_1
 conv=>whnf;arg 1;arg 4;arg 3;whnf
 refine ⟨?_,?_⟩
|apply zi rfl
 . conv=>lhs;whnf
 . conv=>lhs;whnf
 . first | exact hsg
|apply zI rfl rfl rfl
 . conv=>lhs;whnf
 . conv=>lhs;whnf;arg 1;whnf
 . conv=>lhs;whnf;arg 1;whnf
 . exact ⟨by kernel_rfl,by kernel_rfl⟩
 . rfl
|refine zQ ?_
|refine zV ?_
|refine zE ?_
|exact trivial)
 . refine ⟨_,_,_,rfl,rfl,rfl,?_⟩
   show _=V.tup [.agg [.c (.int .i64 1),.c (.string ((bs s).extract ((i:Int)).toNat (((i:Int)+1)).toNat)),.c (.int .i64 (i:Int))],.c (.int .i64 ((i:Int)+1)),.c (.int .i64 0)]
   rw [hx];rfl
 all_goals first
  |exact zU (by omega)
  |exact ⟨by kernel_rfl,by omega,by omega⟩
  |exact ⟨by kernel_rfl,by omega,by omega,by omega⟩
  |(rw [hbt];exact zAV _)
  |exact (show Tryz.prog.underlying _=some TypeDesc.string by kernel_rfl)
  |skip
theorem read_dots (h0:signB s[i]=false) (h:s[i]=46) (b:Bool) (hb:Lib.hasPrefix (s.drop i) [46,46,46]=b) (hl:b=true->i+3<=s.length):AC EN5 Tryz.prog 47 [.c (.string (bs s)),.c (.int .i64 (i:Int))] (if b=true then tupR ⟨1,[46,46,46],i⟩ (i+3) 0 else failR):=by
 have hz:=zk s
 have hbt:=zAK hi
 have hgd:=zEK hi
 have hdr:s.drop i=s[i]::s.drop (i+1):=List.drop_eq_getElem_cons hi
 have q : ∀ n:Nat,n<256->(zR (bs s) ((i:Int)).toNat==(n:Int))=(s[i]==UInt8.ofNat n):=fun n hn=>by rw [hbt];exact zBI _ n hn
 have hsg:=zAI ((bs s).data.toList.getD ((i:Int)).toNat 0)
 have f0:signB ((bs s).data.toList.getD ((i:Int)).toNat 0)=false:=by rw [Int.toNat_natCast,hgd];exact h0
 have f1:(zR (bs s) ((i:Int)).toNat==46)=true:=(q 46 (by omega)).trans (by rw [h];rfl)
 have hpr:=prefix_ac ((bs s).extract ((i:Int)).toNat (bs s).size) { data:=#[46,46,46] }
 rw [zKo] at hpr
 have hb2:Lib.hasPrefix (s.drop i) ({ data:=#[46,46,46] }:ByteArray).data.toList=b:=hb
 rw [hb2] at hpr
 cases b
 . refine zP 116 Tryz.func47 rfl rfl rfl rfl ?_
   intro s0 w he
   repeat' (first
|apply zG
 . conv=>lhs;whnf
 . assumption
|apply zD
 . conv=>lhs;whnf
 . assumption
|refine zA ?_
|refine zB ?_
|refine zF ?_
|apply aw_1
 conv=>whnf
 refine ⟨?_,trivial⟩
|apply s_1
 conv=>whnf;arg 1;arg 4;arg 3;whnf
 refine ⟨?_,?_⟩
|apply zi rfl
 . conv=>lhs;whnf
 . conv=>lhs;whnf
 . first | exact hsg | exact hpr
|apply zI rfl rfl rfl
 . conv=>lhs;whnf
 . conv=>lhs;whnf;arg 1;whnf
 . conv=>lhs;whnf;arg 1;whnf
 . exact ⟨by kernel_rfl,by kernel_rfl⟩
 . rfl
|refine zQ ?_
|refine zV ?_
|refine zE ?_
|exact trivial)
   . exact ⟨_,_,_,rfl,rfl,rfl,rfl⟩
   all_goals first
    |exact zU (by omega)
    |exact ⟨by kernel_rfl,by omega,by omega⟩
    |exact ⟨by kernel_rfl,by omega,by omega,by omega⟩
    |(rw [hbt];exact zAV _)
    |exact (show Tryz.prog.underlying _=some TypeDesc.string by kernel_rfl)
    |skip
 . have hl2:=hl rfl
   refine zP 116 Tryz.func47 rfl rfl rfl rfl ?_
   intro s0 w he
   repeat' (first
|apply zG
 . conv=>lhs;whnf
 . assumption
|apply zD
 . conv=>lhs;whnf
 . assumption
|refine zA ?_
|refine zB ?_
|refine zF ?_
|apply aw_1
 conv=>whnf
 refine ⟨?_,trivial⟩
|apply s_1
 conv=>whnf;arg 1;arg 4;arg 3;whnf
 refine ⟨?_,?_⟩
|apply zi rfl
 . conv=>lhs;whnf
 . conv=>lhs;whnf
 . first | exact hsg | exact hpr
|apply zI rfl rfl rfl
 . conv=>lhs;whnf
 . conv=>lhs;whnf;arg 1;whnf
 . conv=>lhs;whnf;arg 1;whnf
 . exact ⟨by kernel_rfl,by kernel_rfl⟩
 . rfl
|refine zQ ?_
|refine zV ?_
|refine zE ?_
|exact trivial)
   . exact ⟨_,_,_,rfl,rfl,rfl,rfl⟩
   all_goals first
    |exact zU (by omega)
    |exact ⟨by kernel_rfl,by omega,by omega⟩
    |exact ⟨by kernel_rfl,by omega,by omega,by omega⟩
    |(rw [hbt];exact zAV _)
    |exact (show Tryz.prog.underlying _=some TypeDesc.string by kernel_rfl)
    |skip
theorem read_num (h0:signB s[i]=false) (h46:s[i]≠46) (h:s[i]=45\/(s[i]≠45/\digU s[i]=true)) :
 AC EN5 Tryz.prog 47 [.c (.string (bs s)),.c (.int .i64 (i:Int))] (tupR ⟨3,s[i]::(s.drop (i+1)).take (spanN wrdU (s.drop (i+1))),i⟩ (i+1+spanN wrdU (s.drop (i+1))) (nerU (numU (s[i]::(s.drop (i+1)).take (spanN wrdU (s.drop (i+1))))))):=by
 have hz:=zk s
 have hbt:=zAK hi
 have hgd:=zEK hi
 have hdr:s.drop i=s[i]::s.drop (i+1):=List.drop_eq_getElem_cons hi
 have q : ∀ n:Nat,n<256->(zR (bs s) ((i:Int)).toNat==(n:Int))=(s[i]==UInt8.ofNat n):=fun n hn=>by rw [hbt];exact zBI _ n hn
 have hsg:=zAI ((bs s).data.toList.getD ((i:Int)).toNat 0)
 have f0:signB ((bs s).data.toList.getD ((i:Int)).toNat 0)=false:=by rw [Int.toNat_natCast,hgd];exact h0
 have hle:=zAx wrdU (s.drop (i+1))
 rw [List.length_drop] at hle
 have f1:(zR (bs s) ((i:Int)).toNat==46)=false:=(q 46 (by omega)).trans (by simpa using h46)
 have hsp:=zI2 s (i+1) (by omega) (by omega)
 have hx:(bs s).extract ((i:Int)).toNat (((i+1+spanN wrdU (s.drop (i+1)):Nat):Int)).toNat=bs (s[i]::(s.drop (i+1)).take (spanN wrdU (s.drop (i+1)))):=by
  rw [Int.toNat_natCast,Int.toNat_natCast,zCi s (by omega) (by omega),hdr,show i+1+spanN wrdU (s.drop (i+1))-i=spanN wrdU (s.drop (i+1))+1 by omega,List.take_succ_cons]
 have hsz:((bs s).extract ((i:Int)).toNat (((i+1+spanN wrdU (s.drop (i+1)):Nat):Int)).toNat).size<=281474976710656:=by rw [ByteArray.size_extract];omega
 have hnu:=zF7 _ hsz
 unfold zJH at hnu
 have htx:tx ((bs s).extract ((i:Int)).toNat (((i+1+spanN wrdU (s.drop (i+1)):Nat):Int)).toNat)=s[i]::(s.drop (i+1)).take (spanN wrdU (s.drop (i+1))):=by rw [hx];exact zAH _
 rw [htx] at hnu
 have k45:s[i]=45->((zR (bs s) ((i:Int)).toNat==45)==false)=true->False:=fun h h2=>by
  have e:(zR (bs s) ((i:Int)).toNat==45)=true:=(q 45 (by omega)).trans (by rw [h];rfl)
  rw [e] at h2;cases h2
 have kn45:s[i]≠45->((zR (bs s) ((i:Int)).toNat==45)==false)=false->False:=fun h h2=>by
  have e:(zR (bs s) ((i:Int)).toNat==45)=false:=(q 45 (by omega)).trans (by simpa using h)
  rw [e] at h2;cases h2
 have kge:48<=s[i].toNat->(decide (zR (bs s) ((i:Int)).toNat>=48)==true)=false->False:=fun h h2=>by
  rw [hbt,decide_eq_true (show ((s[i].toNat:Nat):Int)>=48 by omega)] at h2;cases h2
 have kng:s[i].toNat<48->(decide (zR (bs s) ((i:Int)).toNat>=48)==true)=true->False:=fun h h2=>by
  rw [hbt,decide_eq_false (show ¬ ((s[i].toNat:Nat):Int)>=48 by omega)] at h2;cases h2
 rcases h with h | ⟨h,hd⟩
 . have f2:(zR (bs s) ((i:Int)).toNat==45)=true:=(q 45 (by omega)).trans (by rw [h];rfl)
   have k1:=k45 h
   refine zP 116 Tryz.func47 rfl rfl rfl rfl ?_
   intro s0 w he
   repeat' (first
|apply zD
 . conv=>lhs;whnf
 . assumption
|exact (k1 ‹_›).elim
|refine zA ?_
|refine zB ?_
|refine zF ?_
|apply aw_1
 conv=>whnf
 refine ⟨?_,trivial⟩
|apply zX rfl rfl
 . conv=>lhs;whnf
 . conv=>lhs;whnf
 . first | exact bT1 ‹_› | exact bT2 ‹_›
|apply s_1
 conv=>whnf;arg 1;arg 4;arg 3;whnf
 refine ⟨?_,?_⟩
|apply zi rfl
 . conv=>lhs;whnf
 . conv=>lhs;whnf
 . first | exact hsg | exact hsp | exact hnu
|apply zI rfl rfl rfl
 . conv=>lhs;whnf
 . conv=>lhs;whnf;arg 1;whnf
 . conv=>lhs;whnf;arg 1;whnf
 . exact ⟨by kernel_rfl,by kernel_rfl⟩
 . rfl
|apply zW rfl
 . conv=>lhs;whnf
 . conv=>lhs;whnf
 . first | rfl | assumption
|apply zH rfl
 . conv=>lhs;whnf
 . conv=>lhs;whnf
 . conv=>lhs;whnf;arg 2;whnf
|refine zQ ?_
|refine zV ?_
|refine zE ?_
|exact trivial
|intro hg)
   . refine ⟨_,_,_,rfl,rfl,rfl,?_⟩
     show _=V.tup [.agg [.c (.int .i64 3),.c (.string ((bs s).extract ((i:Int)).toNat (((i+1+spanN wrdU (s.drop (i+1)):Nat):Int)).toNat)),.c (.int .i64 (i:Int))],.c (.int .i64 ((i+1+spanN wrdU (s.drop (i+1)):Nat):Int)),.c (.int .i64 (nerU (numU (s[i]::(s.drop (i+1)).take (spanN wrdU (s.drop (i+1)))))))]
     rw [hx];rfl
   all_goals first
    |exact zU (by omega)
    |exact ⟨by kernel_rfl,by omega,by omega⟩
    |exact ⟨by kernel_rfl,by omega,by omega,by omega⟩
    |(rw [hbt];exact zAV _)
    |exact (show Tryz.prog.underlying _=some TypeDesc.string by kernel_rfl)
    |skip
 . have f2:(zR (bs s) ((i:Int)).toNat==45)=false:=(q 45 (by omega)).trans (by simpa using h)
   have hd2:48<=s[i].toNat/\s[i].toNat<=57:=by simpa [digU] using hd
   have f3:decide (zR (bs s) ((i:Int)).toNat>=48)=true:=by rw [hbt];exact decide_eq_true (by omega)
   have f4:decide (zR (bs s) ((i:Int)).toNat<=57)=true:=by rw [hbt];exact decide_eq_true (by omega)
   have k1:=kn45 h
   have k2:=kge hd2.1
   refine zP 116 Tryz.func47 rfl rfl rfl rfl ?_
   intro s0 w he
   repeat' (first
|apply zz rfl rfl rfl
 . conv=>lhs;whnf
 . first | rfl | assumption
 . conv=>lhs;whnf
 . first | exact bT1 ‹_› | exact bT2 ‹_› | rfl
|apply zG
 . conv=>lhs;whnf
 . assumption
|apply zD
 . conv=>lhs;whnf
 . assumption
|exact (k1 ‹_›).elim
|exact (k2 ‹_›).elim
|refine zA ?_
|refine zB ?_
|refine zF ?_
|apply aw_1
 conv=>whnf
 refine ⟨?_,trivial⟩
|apply zT rfl rfl
 . conv=>lhs;whnf
 . conv=>lhs;whnf
 . first | exact bF1 ‹_› | exact bF2 ‹_›
|apply s_1
 conv=>whnf;arg 1;arg 4;arg 3;whnf
 refine ⟨?_,?_⟩
|apply zi rfl
 . conv=>lhs;whnf
 . conv=>lhs;whnf
 . first | exact hsg | exact hsp | exact hnu
|apply zI rfl rfl rfl
 . conv=>lhs;whnf
 . conv=>lhs;whnf;arg 1;whnf
 . conv=>lhs;whnf;arg 1;whnf
 . exact ⟨by kernel_rfl,by kernel_rfl⟩
 . rfl
|apply zC rfl
 . conv=>lhs;whnf
 . conv=>lhs;whnf
 . first | rfl | assumption
 . conv=>lhs;whnf;arg 2;whnf
|apply zH rfl
 . conv=>lhs;whnf
 . conv=>lhs;whnf
 . conv=>lhs;whnf;arg 2;whnf
|refine zQ ?_
|refine zV ?_
|refine zE ?_
|exact trivial
|intro hg)
   . refine ⟨_,_,_,rfl,rfl,rfl,?_⟩
     show _=V.tup [.agg [.c (.int .i64 3),.c (.string ((bs s).extract ((i:Int)).toNat (((i+1+spanN wrdU (s.drop (i+1)):Nat):Int)).toNat)),.c (.int .i64 (i:Int))],.c (.int .i64 ((i+1+spanN wrdU (s.drop (i+1)):Nat):Int)),.c (.int .i64 (nerU (numU (s[i]::(s.drop (i+1)).take (spanN wrdU (s.drop (i+1)))))))]
     rw [hx];rfl
   all_goals first
    |exact zU (by omega)
    |exact ⟨by kernel_rfl,by omega,by omega⟩
    |exact ⟨by kernel_rfl,by omega,by omega,by omega⟩
    |(rw [hbt];exact zAV _)
    |exact (show Tryz.prog.underlying _=some TypeDesc.string by kernel_rfl)
    |skip
theorem read_word (h0:signB s[i]=false) (h46:s[i]≠46) (h45:s[i]≠45) (hr:s[i].toNat<48\/57<s[i].toNat) (hw:wrdU s[i]=true) (hlen:spanN wrdU (s.drop (i+1))+1<=64):AC EN5 Tryz.prog 47 [.c (.string (bs s)),.c (.int .i64 (i:Int))] (tupR ⟨2,s[i]::(s.drop (i+1)).take (spanN wrdU (s.drop (i+1))),i⟩ (i+1+spanN wrdU (s.drop (i+1))) 0):=by
 have hz:=zk s
 have hbt:=zAK hi
 have hgd:=zEK hi
 have hdr:s.drop i=s[i]::s.drop (i+1):=List.drop_eq_getElem_cons hi
 have q : ∀ n:Nat,n<256->(zR (bs s) ((i:Int)).toNat==(n:Int))=(s[i]==UInt8.ofNat n):=fun n hn=>by rw [hbt];exact zBI _ n hn
 have hsg:=zAI ((bs s).data.toList.getD ((i:Int)).toNat 0)
 have f0:signB ((bs s).data.toList.getD ((i:Int)).toNat 0)=false:=by rw [Int.toNat_natCast,hgd];exact h0
 have hle:=zAx wrdU (s.drop (i+1))
 rw [List.length_drop] at hle
 have f1:(zR (bs s) ((i:Int)).toNat==46)=false:=(q 46 (by omega)).trans (by simpa using h46)
 have k45:s[i]=45->((zR (bs s) ((i:Int)).toNat==45)==false)=true->False:=fun h h2=>by
  have e:(zR (bs s) ((i:Int)).toNat==45)=true:=(q 45 (by omega)).trans (by rw [h];rfl)
  rw [e] at h2;cases h2
 have kn45:s[i]≠45->((zR (bs s) ((i:Int)).toNat==45)==false)=false->False:=fun h h2=>by
  have e:(zR (bs s) ((i:Int)).toNat==45)=false:=(q 45 (by omega)).trans (by simpa using h)
  rw [e] at h2;cases h2
 have kge:48<=s[i].toNat->(decide (zR (bs s) ((i:Int)).toNat>=48)==true)=false->False:=fun h h2=>by
  rw [hbt,decide_eq_true (show ((s[i].toNat:Nat):Int)>=48 by omega)] at h2;cases h2
 have kng:s[i].toNat<48->(decide (zR (bs s) ((i:Int)).toNat>=48)==true)=true->False:=fun h h2=>by
  rw [hbt,decide_eq_false (show ¬ ((s[i].toNat:Nat):Int)>=48 by omega)] at h2;cases h2
 have hlt:=zB1 ((bs s).data.toList.getD ((i:Int)).toNat 0)
 have f5:wrdU ((bs s).data.toList.getD ((i:Int)).toNat 0)=true:=by rw [Int.toNat_natCast,hgd];exact hw
 have hsp:=zI2 s i (by omega) (by omega)
 have hse:i+spanN wrdU (s.drop i)=i+1+spanN wrdU (s.drop (i+1)):=by rw [hdr,spanN,if_pos hw];omega
 rw [hse] at hsp
 have hx:(bs s).extract ((i:Int)).toNat (((i+1+spanN wrdU (s.drop (i+1)):Nat):Int)).toNat=bs (s[i]::(s.drop (i+1)).take (spanN wrdU (s.drop (i+1)))):=by
  rw [Int.toNat_natCast,Int.toNat_natCast,zCi s (by omega) (by omega),hdr,show i+1+spanN wrdU (s.drop (i+1))-i=spanN wrdU (s.drop (i+1))+1 by omega,List.take_succ_cons]
 have f6:decide (((i+1+spanN wrdU (s.drop (i+1)):Nat):Int)-(i:Int)>64)=false:=decide_eq_false (by omega)
 rcases hr with hr | hr
 . have f2:(zR (bs s) ((i:Int)).toNat==45)=false:=(q 45 (by omega)).trans (by simpa using h45)
   have k1:=kn45 h45
   have k2:=kng hr
   have f3:decide (zR (bs s) ((i:Int)).toNat>=48)=false:=by rw [hbt];exact decide_eq_false (by omega)
   refine zP 116 Tryz.func47 rfl rfl rfl rfl ?_
   intro s0 w he
   repeat' (first
|apply zv rfl rfl rfl
 . conv=>lhs;whnf
 . first | rfl | assumption
 . conv=>lhs;whnf
 . first | exact bF1 ‹_› | exact bF2 ‹_› | rfl
|apply zG
 . conv=>lhs;whnf
 . assumption
|apply zD
 . conv=>lhs;whnf
 . assumption
|exact (k1 ‹_›).elim
|exact (k2 ‹_›).elim
|refine zA ?_
|refine zB ?_
|refine zF ?_
|apply aw_1
 conv=>whnf
 refine ⟨?_,trivial⟩
|apply zT rfl rfl
 . conv=>lhs;whnf
 . conv=>lhs;whnf
 . first | exact bF1 ‹_› | exact bF2 ‹_›
|apply s_1
 conv=>whnf;arg 1;arg 4;arg 3;whnf
 refine ⟨?_,?_⟩
|apply zi rfl
 . conv=>lhs;whnf
 . conv=>lhs;whnf
 . first | exact hsg | exact hlt | exact hsp
|apply zI rfl rfl rfl
 . conv=>lhs;whnf
 . conv=>lhs;whnf;arg 1;whnf
 . conv=>lhs;whnf;arg 1;whnf
 . exact ⟨by kernel_rfl,by kernel_rfl⟩
 . rfl
|apply zC rfl
 . conv=>lhs;whnf
 . conv=>lhs;whnf
 . first | rfl | assumption
 . conv=>lhs;whnf;arg 2;whnf
|apply zW rfl
 . conv=>lhs;whnf
 . conv=>lhs;whnf
 . first | rfl | assumption
|apply zH rfl
 . conv=>lhs;whnf
 . conv=>lhs;whnf
 . conv=>lhs;whnf;arg 2;whnf
|refine zQ ?_
|refine zV ?_
|refine zE ?_
|exact trivial
|intro hg)
   . refine ⟨_,_,_,rfl,rfl,rfl,?_⟩
     show _=V.tup [.agg [.c (.int .i64 2),.c (.string ((bs s).extract ((i:Int)).toNat (((i+1+spanN wrdU (s.drop (i+1)):Nat):Int)).toNat)),.c (.int .i64 (i:Int))],.c (.int .i64 ((i+1+spanN wrdU (s.drop (i+1)):Nat):Int)),.c (.int .i64 0)]
     rw [hx];rfl
   all_goals first
    |exact zU (by omega)
    |exact ⟨by kernel_rfl,by omega,by omega⟩
    |exact ⟨by kernel_rfl,by omega,by omega,by omega⟩
    |(rw [hbt];exact zAV _)
    |exact (show Tryz.prog.underlying _=some TypeDesc.string by kernel_rfl)
    |skip
 . have f2:(zR (bs s) ((i:Int)).toNat==45)=false:=(q 45 (by omega)).trans (by simpa using h45)
   have k1:=kn45 h45
   have k2:=kge (by omega)
   have f3:decide (zR (bs s) ((i:Int)).toNat>=48)=true:=by rw [hbt];exact decide_eq_true (by omega)
   have f4:decide (zR (bs s) ((i:Int)).toNat<=57)=false:=by rw [hbt];exact decide_eq_false (by omega)
   refine zP 116 Tryz.func47 rfl rfl rfl rfl ?_
   intro s0 w he
   repeat' (first
|apply zz rfl rfl rfl
 . conv=>lhs;whnf
 . first | rfl | assumption
 . conv=>lhs;whnf
 . first | exact bT1 ‹_› | exact bT2 ‹_› | rfl
|apply zG
 . conv=>lhs;whnf
 . assumption
|apply zD
 . conv=>lhs;whnf
 . assumption
|exact (k1 ‹_›).elim
|exact (k2 ‹_›).elim
|refine zA ?_
|refine zB ?_
|refine zF ?_
|apply aw_1
 conv=>whnf
 refine ⟨?_,trivial⟩
|apply zT rfl rfl
 . conv=>lhs;whnf
 . conv=>lhs;whnf
 . first | exact bF1 ‹_› | exact bF2 ‹_›
|apply s_1
 conv=>whnf;arg 1;arg 4;arg 3;whnf
 refine ⟨?_,?_⟩
|apply zi rfl
 . conv=>lhs;whnf
 . conv=>lhs;whnf
 . first | exact hsg | exact hlt | exact hsp
|apply zI rfl rfl rfl
 . conv=>lhs;whnf
 . conv=>lhs;whnf;arg 1;whnf
 . conv=>lhs;whnf;arg 1;whnf
 . exact ⟨by kernel_rfl,by kernel_rfl⟩
 . rfl
|apply zC rfl
 . conv=>lhs;whnf
 . conv=>lhs;whnf
 . first | rfl | assumption
 . conv=>lhs;whnf;arg 2;whnf
|apply zH rfl
 . conv=>lhs;whnf
 . conv=>lhs;whnf
 . conv=>lhs;whnf;arg 2;whnf
|refine zQ ?_
|refine zV ?_
|refine zE ?_
|exact trivial
|intro hg)
   . refine ⟨_,_,_,rfl,rfl,rfl,?_⟩
     show _=V.tup [.agg [.c (.int .i64 2),.c (.string ((bs s).extract ((i:Int)).toNat (((i+1+spanN wrdU (s.drop (i+1)):Nat):Int)).toNat)),.c (.int .i64 (i:Int))],.c (.int .i64 ((i+1+spanN wrdU (s.drop (i+1)):Nat):Int)),.c (.int .i64 0)]
     rw [hx];rfl
   all_goals first
    |exact zU (by omega)
    |exact ⟨by kernel_rfl,by omega,by omega⟩
    |exact ⟨by kernel_rfl,by omega,by omega,by omega⟩
    |(rw [hbt];exact zAV _)
    |exact (show Tryz.prog.underlying _=some TypeDesc.string by kernel_rfl)
    |skip
theorem read_long (h0:signB s[i]=false) (h46:s[i]≠46) (h45:s[i]≠45) (hr:s[i].toNat<48\/57<s[i].toNat) (hw:wrdU s[i]=true) (hlen : ¬ spanN wrdU (s.drop (i+1))+1<=64):AC EN5 Tryz.prog 47 [.c (.string (bs s)),.c (.int .i64 (i:Int))] failR:=by
 have hz:=zk s
 have hbt:=zAK hi
 have hgd:=zEK hi
 have hdr:s.drop i=s[i]::s.drop (i+1):=List.drop_eq_getElem_cons hi
 have q : ∀ n:Nat,n<256->(zR (bs s) ((i:Int)).toNat==(n:Int))=(s[i]==UInt8.ofNat n):=fun n hn=>by rw [hbt];exact zBI _ n hn
 have hsg:=zAI ((bs s).data.toList.getD ((i:Int)).toNat 0)
 have f0:signB ((bs s).data.toList.getD ((i:Int)).toNat 0)=false:=by rw [Int.toNat_natCast,hgd];exact h0
 have hle:=zAx wrdU (s.drop (i+1))
 rw [List.length_drop] at hle
 have f1:(zR (bs s) ((i:Int)).toNat==46)=false:=(q 46 (by omega)).trans (by simpa using h46)
 have k45:s[i]=45->((zR (bs s) ((i:Int)).toNat==45)==false)=true->False:=fun h h2=>by
  have e:(zR (bs s) ((i:Int)).toNat==45)=true:=(q 45 (by omega)).trans (by rw [h];rfl)
  rw [e] at h2;cases h2
 have kn45:s[i]≠45->((zR (bs s) ((i:Int)).toNat==45)==false)=false->False:=fun h h2=>by
  have e:(zR (bs s) ((i:Int)).toNat==45)=false:=(q 45 (by omega)).trans (by simpa using h)
  rw [e] at h2;cases h2
 have kge:48<=s[i].toNat->(decide (zR (bs s) ((i:Int)).toNat>=48)==true)=false->False:=fun h h2=>by
  rw [hbt,decide_eq_true (show ((s[i].toNat:Nat):Int)>=48 by omega)] at h2;cases h2
 have kng:s[i].toNat<48->(decide (zR (bs s) ((i:Int)).toNat>=48)==true)=true->False:=fun h h2=>by
  rw [hbt,decide_eq_false (show ¬ ((s[i].toNat:Nat):Int)>=48 by omega)] at h2;cases h2
 have hlt:=zB1 ((bs s).data.toList.getD ((i:Int)).toNat 0)
 have f5:wrdU ((bs s).data.toList.getD ((i:Int)).toNat 0)=true:=by rw [Int.toNat_natCast,hgd];exact hw
 have hsp:=zI2 s i (by omega) (by omega)
 have hse:i+spanN wrdU (s.drop i)=i+1+spanN wrdU (s.drop (i+1)):=by rw [hdr,spanN,if_pos hw];omega
 rw [hse] at hsp
 have f6:decide (((i+1+spanN wrdU (s.drop (i+1)):Nat):Int)-(i:Int)>64)=true:=decide_eq_true (by omega)
 rcases hr with hr | hr
 . have f2:(zR (bs s) ((i:Int)).toNat==45)=false:=(q 45 (by omega)).trans (by simpa using h45)
   have k1:=kn45 h45
   have k2:=kng hr
   have f3:decide (zR (bs s) ((i:Int)).toNat>=48)=false:=by rw [hbt];exact decide_eq_false (by omega)
   refine zP 116 Tryz.func47 rfl rfl rfl rfl ?_
   intro s0 w he
   repeat' (first
|apply zv rfl rfl rfl
 . conv=>lhs;whnf
 . first | rfl | assumption
 . conv=>lhs;whnf
 . first | exact bF1 ‹_› | exact bF2 ‹_› | rfl
|apply zG
 . conv=>lhs;whnf
 . assumption
|apply zD
 . conv=>lhs;whnf
 . assumption
|exact (k1 ‹_›).elim
|exact (k2 ‹_›).elim
|refine zA ?_
|refine zB ?_
|refine zF ?_
|apply aw_1
 conv=>whnf
 refine ⟨?_,trivial⟩
|apply zT rfl rfl
 . conv=>lhs;whnf
 . conv=>lhs;whnf
 . first | exact bF1 ‹_› | exact bF2 ‹_›
|apply s_1
 conv=>whnf;arg 1;arg 4;arg 3;whnf
 refine ⟨?_,?_⟩
|apply zi rfl
 . conv=>lhs;whnf
 . conv=>lhs;whnf
 . first | exact hsg | exact hlt | exact hsp
|apply zI rfl rfl rfl
 . conv=>lhs;whnf
 . conv=>lhs;whnf;arg 1;whnf
 . conv=>lhs;whnf;arg 1;whnf
 . exact ⟨by kernel_rfl,by kernel_rfl⟩
 . rfl
|apply zC rfl
 . conv=>lhs;whnf
 . conv=>lhs;whnf
 . first | rfl | assumption
 . conv=>lhs;whnf;arg 2;whnf
|apply zW rfl
 . conv=>lhs;whnf
 . conv=>lhs;whnf
 . first | rfl | assumption
|apply zH rfl
 . conv=>lhs;whnf
 . conv=>lhs;whnf
 . conv=>lhs;whnf;arg 2;whnf
|refine zQ ?_
|refine zV ?_
|refine zE ?_
|exact trivial
|intro hg)
   . exact ⟨_,_,_,rfl,rfl,rfl,rfl⟩
   all_goals first
    |exact zU (by omega)
    |exact ⟨by kernel_rfl,by omega,by omega⟩
    |exact ⟨by kernel_rfl,by omega,by omega,by omega⟩
    |(rw [hbt];exact zAV _)
    |exact (show Tryz.prog.underlying _=some TypeDesc.string by kernel_rfl)
    |skip
 . have f2:(zR (bs s) ((i:Int)).toNat==45)=false:=(q 45 (by omega)).trans (by simpa using h45)
   have k1:=kn45 h45
   have k2:=kge (by omega)
   have f3:decide (zR (bs s) ((i:Int)).toNat>=48)=true:=by rw [hbt];exact decide_eq_true (by omega)
   have f4:decide (zR (bs s) ((i:Int)).toNat<=57)=false:=by rw [hbt];exact decide_eq_false (by omega)
   refine zP 116 Tryz.func47 rfl rfl rfl rfl ?_
   intro s0 w he
   repeat' (first
|apply zz rfl rfl rfl
 . conv=>lhs;whnf
 . first | rfl | assumption
 . conv=>lhs;whnf
 . first | exact bT1 ‹_› | exact bT2 ‹_› | rfl
|apply zG
 . conv=>lhs;whnf
 . assumption
|apply zD
 . conv=>lhs;whnf
 . assumption
|exact (k1 ‹_›).elim
|exact (k2 ‹_›).elim
|refine zA ?_
|refine zB ?_
|refine zF ?_
|apply aw_1
 conv=>whnf
 refine ⟨?_,trivial⟩
|apply zT rfl rfl
 . conv=>lhs;whnf
 . conv=>lhs;whnf
 . first | exact bF1 ‹_› | exact bF2 ‹_›
|apply s_1
 conv=>whnf;arg 1;arg 4;arg 3;whnf
 refine ⟨?_,?_⟩
|apply zi rfl
 . conv=>lhs;whnf
 . conv=>lhs;whnf
 . first | exact hsg | exact hlt | exact hsp
|apply zI rfl rfl rfl
 . conv=>lhs;whnf
 . conv=>lhs;whnf;arg 1;whnf
 . conv=>lhs;whnf;arg 1;whnf
 . exact ⟨by kernel_rfl,by kernel_rfl⟩
 . rfl
|apply zC rfl
 . conv=>lhs;whnf
 . conv=>lhs;whnf
 . first | rfl | assumption
 . conv=>lhs;whnf;arg 2;whnf
|apply zH rfl
 . conv=>lhs;whnf
 . conv=>lhs;whnf
 . conv=>lhs;whnf;arg 2;whnf
|refine zQ ?_
|refine zV ?_
|refine zE ?_
|exact trivial
|intro hg)
   . exact ⟨_,_,_,rfl,rfl,rfl,rfl⟩
   all_goals first
    |exact zU (by omega)
    |exact ⟨by kernel_rfl,by omega,by omega⟩
    |exact ⟨by kernel_rfl,by omega,by omega,by omega⟩
    |(rw [hbt];exact zAV _)
    |exact (show Tryz.prog.underlying _=some TypeDesc.string by kernel_rfl)
    |skip
theorem read_none (h0:signB s[i]=false) (h46:s[i]≠46) (h45:s[i]≠45) (hr:s[i].toNat<48\/57<s[i].toNat) (hw:wrdU s[i]=false) (h34:s[i]≠34):AC EN5 Tryz.prog 47 [.c (.string (bs s)),.c (.int .i64 (i:Int))] failR:=by
 have hz:=zk s
 have hbt:=zAK hi
 have hgd:=zEK hi
 have hdr:s.drop i=s[i]::s.drop (i+1):=List.drop_eq_getElem_cons hi
 have q : ∀ n:Nat,n<256->(zR (bs s) ((i:Int)).toNat==(n:Int))=(s[i]==UInt8.ofNat n):=fun n hn=>by rw [hbt];exact zBI _ n hn
 have hsg:=zAI ((bs s).data.toList.getD ((i:Int)).toNat 0)
 have f0:signB ((bs s).data.toList.getD ((i:Int)).toNat 0)=false:=by rw [Int.toNat_natCast,hgd];exact h0
 have hle:=zAx wrdU (s.drop (i+1))
 rw [List.length_drop] at hle
 have f1:(zR (bs s) ((i:Int)).toNat==46)=false:=(q 46 (by omega)).trans (by simpa using h46)
 have k45:s[i]=45->((zR (bs s) ((i:Int)).toNat==45)==false)=true->False:=fun h h2=>by
  have e:(zR (bs s) ((i:Int)).toNat==45)=true:=(q 45 (by omega)).trans (by rw [h];rfl)
  rw [e] at h2;cases h2
 have kn45:s[i]≠45->((zR (bs s) ((i:Int)).toNat==45)==false)=false->False:=fun h h2=>by
  have e:(zR (bs s) ((i:Int)).toNat==45)=false:=(q 45 (by omega)).trans (by simpa using h)
  rw [e] at h2;cases h2
 have kge:48<=s[i].toNat->(decide (zR (bs s) ((i:Int)).toNat>=48)==true)=false->False:=fun h h2=>by
  rw [hbt,decide_eq_true (show ((s[i].toNat:Nat):Int)>=48 by omega)] at h2;cases h2
 have kng:s[i].toNat<48->(decide (zR (bs s) ((i:Int)).toNat>=48)==true)=true->False:=fun h h2=>by
  rw [hbt,decide_eq_false (show ¬ ((s[i].toNat:Nat):Int)>=48 by omega)] at h2;cases h2
 have hlt:=zB1 ((bs s).data.toList.getD ((i:Int)).toNat 0)
 have f5:wrdU ((bs s).data.toList.getD ((i:Int)).toNat 0)=false:=by rw [Int.toNat_natCast,hgd];exact hw
 have f6:(zR (bs s) ((i:Int)).toNat==34)=false:=(q 34 (by omega)).trans (by simpa using h34)
 rcases hr with hr | hr
 . have f2:(zR (bs s) ((i:Int)).toNat==45)=false:=(q 45 (by omega)).trans (by simpa using h45)
   have k1:=kn45 h45
   have k2:=kng hr
   have f3:decide (zR (bs s) ((i:Int)).toNat>=48)=false:=by rw [hbt];exact decide_eq_false (by omega)
   refine zP 116 Tryz.func47 rfl rfl rfl rfl ?_
   intro s0 w he
   repeat' (first
|apply zv rfl rfl rfl
 . conv=>lhs;whnf
 . first | rfl | assumption
 . conv=>lhs;whnf
 . first | exact bF1 ‹_› | exact bF2 ‹_› | rfl
|apply zD
 . conv=>lhs;whnf
 . assumption
|exact (k1 ‹_›).elim
|exact (k2 ‹_›).elim
|refine zA ?_
|refine zB ?_
|refine zF ?_
|refine zZ ?_
|apply aw_1
 conv=>whnf
 refine ⟨?_,trivial⟩
|apply zT rfl rfl
 . conv=>lhs;whnf
 . conv=>lhs;whnf
 . first | exact bF1 ‹_› | exact bF2 ‹_›
|apply s_1
 conv=>whnf;arg 1;arg 4;arg 3;whnf
 refine ⟨?_,?_⟩
|apply zi rfl
 . conv=>lhs;whnf
 . conv=>lhs;whnf
 . first | exact hsg | exact hlt
|apply zI rfl rfl rfl
 . conv=>lhs;whnf
 . conv=>lhs;whnf;arg 1;whnf
 . conv=>lhs;whnf;arg 1;whnf
 . exact ⟨by kernel_rfl,by kernel_rfl⟩
 . rfl
|apply zC rfl
 . conv=>lhs;whnf
 . conv=>lhs;whnf
 . first | rfl | assumption
 . conv=>lhs;whnf;arg 2;whnf
|apply zW rfl
 . conv=>lhs;whnf
 . conv=>lhs;whnf
 . first | rfl | assumption
|apply zH rfl
 . conv=>lhs;whnf
 . conv=>lhs;whnf
 . conv=>lhs;whnf;arg 2;whnf
|refine zE ?_
|exact trivial
|intro hg)
   . exact ⟨_,_,_,rfl,rfl,rfl,rfl⟩
   all_goals first
    |exact zU (by omega)
    |exact ⟨by kernel_rfl,by omega,by omega⟩
    |exact ⟨by kernel_rfl,by omega,by omega,by omega⟩
    |(rw [hbt];exact zAV _)
    |exact (show Tryz.prog.underlying _=some TypeDesc.string by kernel_rfl)
    |skip
 . have f2:(zR (bs s) ((i:Int)).toNat==45)=false:=(q 45 (by omega)).trans (by simpa using h45)
   have k1:=kn45 h45
   have k2:=kge (by omega)
   have f3:decide (zR (bs s) ((i:Int)).toNat>=48)=true:=by rw [hbt];exact decide_eq_true (by omega)
   have f4:decide (zR (bs s) ((i:Int)).toNat<=57)=false:=by rw [hbt];exact decide_eq_false (by omega)
   refine zP 116 Tryz.func47 rfl rfl rfl rfl ?_
   intro s0 w he
   repeat' (first
|apply zz rfl rfl rfl
 . conv=>lhs;whnf
 . first | rfl | assumption
 . conv=>lhs;whnf
 . first | exact bT1 ‹_› | exact bT2 ‹_› | rfl
|apply zD
 . conv=>lhs;whnf
 . assumption
|exact (k1 ‹_›).elim
|exact (k2 ‹_›).elim
|refine zA ?_
|refine zB ?_
|refine zF ?_
|refine zZ ?_
|apply aw_1
 conv=>whnf
 refine ⟨?_,trivial⟩
|apply zT rfl rfl
 . conv=>lhs;whnf
 . conv=>lhs;whnf
 . first | exact bF1 ‹_› | exact bF2 ‹_›
|apply s_1
 conv=>whnf;arg 1;arg 4;arg 3;whnf
 refine ⟨?_,?_⟩
|apply zi rfl
 . conv=>lhs;whnf
 . conv=>lhs;whnf
 . first | exact hsg | exact hlt
|apply zI rfl rfl rfl
 . conv=>lhs;whnf
 . conv=>lhs;whnf;arg 1;whnf
 . conv=>lhs;whnf;arg 1;whnf
 . exact ⟨by kernel_rfl,by kernel_rfl⟩
 . rfl
|apply zC rfl
 . conv=>lhs;whnf
 . conv=>lhs;whnf
 . first | rfl | assumption
 . conv=>lhs;whnf;arg 2;whnf
|apply zH rfl
 . conv=>lhs;whnf
 . conv=>lhs;whnf
 . conv=>lhs;whnf;arg 2;whnf
|refine zE ?_
|exact trivial
|intro hg)
   . exact ⟨_,_,_,rfl,rfl,rfl,rfl⟩
   all_goals first
    |exact zU (by omega)
    |exact ⟨by kernel_rfl,by omega,by omega⟩
    |exact ⟨by kernel_rfl,by omega,by omega,by omega⟩
    |(rw [hbt];exact zAV _)
    |exact (show Tryz.prog.underlying _=some TypeDesc.string by kernel_rfl)
    |skip
end
end
section
open Go.RowKit
set_option linter.unusedSectionVars false
attribute [local irreducible] wpList Calls Code.wp AW AWo OpOk seqK zq zu loopK endK AC zf Yld Sub
attribute [local irreducible] ACB ACX ACE absLexG YldG
section
variable {s:List UInt8} {i:Nat} (hi:i<s.length) (hs:s.length<=70000)
include hi hs
theorem read_open (h:s[i]=34) (hn:litN (s.drop (i+1))=none):AC EN5 Tryz.prog 47 [.c (.string (bs s)),.c (.int .i64 (i:Int))] failR:=by
 have hz:=zk s
 have hbt:=zAK hi
 have hgd:=zEK hi
 have hdr:s.drop i=s[i]::s.drop (i+1):=List.drop_eq_getElem_cons hi
 have q : ∀ n:Nat,n<256->(zR (bs s) ((i:Int)).toNat==(n:Int))=(s[i]==UInt8.ofNat n):=fun n hn=>by rw [hbt];exact zBI _ n hn
 have hsg:=zAI ((bs s).data.toList.getD ((i:Int)).toNat 0)
 have f0:signB ((bs s).data.toList.getD ((i:Int)).toNat 0)=false:=by rw [Int.toNat_natCast,hgd,h];rfl
 have f1:(zR (bs s) ((i:Int)).toNat==46)=false:=(q 46 (by omega)).trans (by rw [h];rfl)
 have f2:(zR (bs s) ((i:Int)).toNat==45)=false:=(q 45 (by omega)).trans (by rw [h];rfl)
 have f3:decide (zR (bs s) ((i:Int)).toNat>=48)=false:=by rw [hbt,h];rfl
 have k1:((zR (bs s) ((i:Int)).toNat==45)==false)=false->False:=fun h2=>by rw [f2] at h2;cases h2
 have k2:(decide (zR (bs s) ((i:Int)).toNat>=48)==true)=true->False:=fun h2=>by rw [f3] at h2;cases h2
 have hlt:=zB1 ((bs s).data.toList.getD ((i:Int)).toNat 0)
 have f5:wrdU ((bs s).data.toList.getD ((i:Int)).toNat 0)=false:=by rw [Int.toNat_natCast,hgd,h];rfl
 have f6:(zR (bs s) ((i:Int)).toNat==34)=true:=(q 34 (by omega)).trans (by rw [h];rfl)
 have hll:=zGB s i hi (by omega)
 have hv:litV s i = -1:=by unfold litV;rw [hn]
 rw [hv] at hll
 refine zP 116 Tryz.func47 rfl rfl rfl rfl ?_
 intro s0 w he
 repeat' (first
|apply zv rfl rfl rfl
 . conv=>lhs;whnf
 . first | rfl | assumption
 . conv=>lhs;whnf
 . first | exact bF1 ‹_› | exact bF2 ‹_› | rfl
|apply zG
 . conv=>lhs;whnf
 . assumption
|apply zD
 . conv=>lhs;whnf
 . assumption
|exact (k1 ‹_›).elim
|exact (k2 ‹_›).elim
|refine zA ?_
|refine zB ?_
|refine zF ?_
|apply aw_1
 conv=>whnf
 refine ⟨?_,trivial⟩
|apply zT rfl rfl
 . conv=>lhs;whnf
 . conv=>lhs;whnf
 . first | exact bF1 ‹_› | exact bF2 ‹_›
|apply s_1
 conv=>whnf;arg 1;arg 4;arg 3;whnf
 refine ⟨?_,?_⟩
|apply zi rfl
 . conv=>lhs;whnf
 . conv=>lhs;whnf
 . first | exact hsg | exact hlt | exact hll
|apply zI rfl rfl rfl
 . conv=>lhs;whnf
 . conv=>lhs;whnf;arg 1;whnf
 . conv=>lhs;whnf;arg 1;whnf
 . exact ⟨by kernel_rfl,by kernel_rfl⟩
 . rfl
|apply zC rfl
 . conv=>lhs;whnf
 . conv=>lhs;whnf
 . first | rfl | assumption
 . conv=>lhs;whnf;arg 2;whnf
|apply zW rfl
 . conv=>lhs;whnf
 . conv=>lhs;whnf
 . first | rfl | assumption
|apply zH rfl
 . conv=>lhs;whnf
 . conv=>lhs;whnf
 . conv=>lhs;whnf;arg 2;whnf
|refine zQ ?_
|refine zV ?_
|refine zE ?_
|exact trivial
|intro hg)
 . exact ⟨_,_,_,rfl,rfl,rfl,rfl⟩
 all_goals first
  |exact zU (by omega)
  |exact ⟨by kernel_rfl,by omega,by omega⟩
  |exact ⟨by kernel_rfl,by omega,by omega,by omega⟩
  |(rw [hbt];exact zAV _)
  |exact (show Tryz.prog.underlying _=some TypeDesc.string by kernel_rfl)
  |skip
theorem read_text (h:s[i]=34) (n:Nat) (hn:litN (s.drop (i+1))=some n):AC EN5 Tryz.prog 47 [.c (.string (bs s)),.c (.int .i64 (i:Int))] (tupR ⟨4,(unquoteU (s[i]::(s.drop (i+1)).take n)).getD [],i⟩ (i+1+n) (uqE (unquoteU (s[i]::(s.drop (i+1)).take n)))):=by
 have hz:=zk s
 have hbt:=zAK hi
 have hgd:=zEK hi
 have hdr:s.drop i=s[i]::s.drop (i+1):=List.drop_eq_getElem_cons hi
 have q : ∀ n:Nat,n<256->(zR (bs s) ((i:Int)).toNat==(n:Int))=(s[i]==UInt8.ofNat n):=fun n hn=>by rw [hbt];exact zBI _ n hn
 have hsg:=zAI ((bs s).data.toList.getD ((i:Int)).toNat 0)
 have f0:signB ((bs s).data.toList.getD ((i:Int)).toNat 0)=false:=by rw [Int.toNat_natCast,hgd,h];rfl
 have f1:(zR (bs s) ((i:Int)).toNat==46)=false:=(q 46 (by omega)).trans (by rw [h];rfl)
 have f2:(zR (bs s) ((i:Int)).toNat==45)=false:=(q 45 (by omega)).trans (by rw [h];rfl)
 have f3:decide (zR (bs s) ((i:Int)).toNat>=48)=false:=by rw [hbt,h];rfl
 have k1:((zR (bs s) ((i:Int)).toNat==45)==false)=false->False:=fun h2=>by rw [f2] at h2;cases h2
 have k2:(decide (zR (bs s) ((i:Int)).toNat>=48)==true)=true->False:=fun h2=>by rw [f3] at h2;cases h2
 have hlt:=zB1 ((bs s).data.toList.getD ((i:Int)).toNat 0)
 have f5:wrdU ((bs s).data.toList.getD ((i:Int)).toNat 0)=false:=by rw [Int.toNat_natCast,hgd,h];rfl
 have f6:(zR (bs s) ((i:Int)).toNat==34)=true:=(q 34 (by omega)).trans (by rw [h];rfl)
 have hll:=zGB s i hi (by omega)
 have hln:=zE7 _ n hn
 rw [List.length_drop] at hln
 have hv:litV s i=((i+1+n:Nat):Int):=by unfold litV;rw [hn]
 rw [hv] at hll
 have f7:decide (((i+1+n:Nat):Int)<0)=false:=decide_eq_false (by omega)
 have hx:(bs s).extract ((i:Int)).toNat (((i+1+n:Nat):Int)).toNat=bs (s[i]::(s.drop (i+1)).take n):=by
  rw [Int.toNat_natCast,Int.toNat_natCast,zCi s (by omega) (by omega),hdr,show i+1+n-i=n+1 by omega,List.take_succ_cons]
 have hsz:((bs s).extract ((i:Int)).toNat (((i+1+n:Nat):Int)).toNat).size<=100000:=by rw [ByteArray.size_extract];omega
 have huq:=zIx _ hsz
 unfold uqVV at huq
 have htx:tx ((bs s).extract ((i:Int)).toNat (((i+1+n:Nat):Int)).toNat)=s[i]::(s.drop (i+1)).take n:=by rw [hx];exact zAH _
 rw [htx] at huq
 refine zP 116 Tryz.func47 rfl rfl rfl rfl ?_
 intro s0 w he
 repeat' (first
|apply zv rfl rfl rfl
 . conv=>lhs;whnf
 . first | rfl | assumption
 . conv=>lhs;whnf
 . first | exact bF1 ‹_› | exact bF2 ‹_› | rfl
|apply zG
 . conv=>lhs;whnf
 . assumption
|apply zD
 . conv=>lhs;whnf
 . assumption
|exact (k1 ‹_›).elim
|exact (k2 ‹_›).elim
|refine zA ?_
|refine zB ?_
|refine zF ?_
|apply aw_1
 conv=>whnf
 refine ⟨?_,trivial⟩
|apply zT rfl rfl
 . conv=>lhs;whnf
 . conv=>lhs;whnf
 . first | exact bF1 ‹_› | exact bF2 ‹_›
|apply s_1
 conv=>whnf;arg 1;arg 4;arg 3;whnf
 refine ⟨?_,?_⟩
|apply zi rfl
 . conv=>lhs;whnf
 . conv=>lhs;whnf
 . first | exact hsg | exact hlt | exact hll | exact huq
|apply zI rfl rfl rfl
 . conv=>lhs;whnf
 . conv=>lhs;whnf;arg 1;whnf
 . conv=>lhs;whnf;arg 1;whnf
 . exact ⟨by kernel_rfl,by kernel_rfl⟩
 . rfl
|apply zC rfl
 . conv=>lhs;whnf
 . conv=>lhs;whnf
 . first | rfl | assumption
 . conv=>lhs;whnf;arg 2;whnf
|apply zW rfl
 . conv=>lhs;whnf
 . conv=>lhs;whnf
 . first | rfl | assumption
|apply zH rfl
 . conv=>lhs;whnf
 . conv=>lhs;whnf
 . conv=>lhs;whnf;arg 2;whnf
|refine zQ ?_
|refine zV ?_
|refine zE ?_
|exact trivial
|intro hg)
 . exact ⟨_,_,_,rfl,rfl,rfl,rfl⟩
 all_goals first
  |exact zU (by omega)
  |exact ⟨by kernel_rfl,by omega,by omega⟩
  |exact ⟨by kernel_rfl,by omega,by omega,by omega⟩
  |(rw [hbt];exact zAV _)
  |exact (show Tryz.prog.underlying _=some TypeDesc.string by kernel_rfl)
  |skip
theorem read_ac:AC EN5 Tryz.prog 47 [.c (.string (bs s)),.c (.int .i64 (i:Int))] (readV (s.drop i) i):=by
 have hdr:s.drop i=s[i]::s.drop (i+1):=List.drop_eq_getElem_cons hi
 rw [hdr]
 unfold readV
 simp only []
 by_cases h0:signB s[i]=true
 . rw [if_pos h0];exact read_sign hi hs h0
 rw [if_neg h0]
 have h0:signB s[i]=false:=by simpa using h0
 by_cases h46:s[i]=46
 . rw [if_pos (by simp [h46])]
   have hp:Lib.hasPrefix (s.drop i) [46,46,46]=decide ((s.drop (i+1)).take 2=[46,46]):=by
    rw [hdr,h46]
    show List.isPrefixOf [46,46] (s.drop (i+1))=_
    rw [Bool.eq_iff_iff]
    simp only [List.isPrefixOf_iff_prefix,decide_eq_true_eq,List.prefix_iff_eq_take]
    exact eq_comm
   have:=read_dots hi hs h0 h46 _ hp (fun hd=>by
    have:=congrArg List.length (of_decide_eq_true hd)
    rw [List.length_take,List.length_drop] at this
    simp at this;omega)
   simpa using this
 rw [if_neg (by simpa using h46)]
 by_cases hd:(s[i]==45||digU s[i])=true
 . rw [if_pos hd]
   refine read_num hi hs h0 h46 ?_
   by_cases h45:s[i]=45
   . exact .inl h45
   . exact .inr ⟨h45,by simpa [h45] using hd⟩
 rw [if_neg hd]
 have hd:(s[i]==45||digU s[i])=false:=by simpa using hd
 rw [Bool.or_eq_false_iff] at hd
 have h45:s[i]≠45:=by simpa using hd.1
 have hr:s[i].toNat<48\/57<s[i].toNat:=by
  have:=hd.2
  simp only [digU,decide_eq_false_iff_not] at this
  omega
 by_cases hw:wrdU s[i]=true
 . rw [if_pos hw]
   by_cases hl:spanN wrdU (s.drop (i+1))+1>64
   . rw [if_pos hl];exact read_long hi hs h0 h46 h45 hr hw (by omega)
   . rw [if_neg hl];exact read_word hi hs h0 h46 h45 hr hw (by omega)
 rw [if_neg hw]
 have hw:wrdU s[i]=false:=by simpa using hw
 by_cases h34:s[i]=34
 . rw [if_pos (by simp [h34])]
   cases hn:litN (s.drop (i+1)) with
   |none=>exact read_open hi hs h34 hn
   |some n=>exact read_text hi hs h34 n hn
 . rw [if_neg (by simpa using h34)]
   exact read_none hi hs h0 h46 h45 hr hw h34
end
theorem zKC (c:UInt8) (r:List UInt8) (i:Nat) :
 (∀ k t n,readU (c::r) = .ok (k,t,n)->readV (c::r) i=tupR ⟨k,t,i⟩ (i+n) 0)/\(∀ e,readU (c::r) = .error e->e≠0 /\ ∃ t k,readV (c::r) i=tupR t k e):=by
 unfold readU readV
 simp only []
 have f3 : ∀ e:Int,(3:Int)=e->e≠0 /\ ∃ t k,failR=tupR t k e:=fun e he=>by subst he;exact ⟨by decide,_,_,rfl⟩
 by_cases h0:signB c=true
 . rw [if_pos h0,if_pos h0]
   exact ⟨fun k t n h=>by cases h;rfl,fun e h=>by cases h⟩
 rw [if_neg h0,if_neg h0]
 by_cases h46:(c==46)=true
 . rw [if_pos h46,if_pos h46]
   by_cases hp:r.take 2=[46,46]
   . rw [if_pos hp,if_pos hp]
     exact ⟨fun k t n h=>by cases h;rfl,fun e h=>by cases h⟩
   . rw [if_neg hp,if_neg hp]
     exact ⟨fun k t n h=>(by cases h),fun e h=>by cases h;exact f3 _ rfl⟩
 rw [if_neg h46,if_neg h46]
 by_cases hd:(c==45||digU c)=true
 . rw [if_pos hd,if_pos hd]
   by_cases hn:nerU (numU (c::r.take (spanN wrdU r)))=0
   . rw [if_pos hn]
     refine ⟨fun k t n h => ?_,fun e h=>by cases h⟩
     cases h
     rw [hn,show i+1+spanN wrdU r=i+(spanN wrdU r+1) by omega]
   . rw [if_neg hn]
     exact ⟨fun k t n h=>(by cases h),fun e h=>by cases h;exact ⟨hn,_,_,rfl⟩⟩
 rw [if_neg hd,if_neg hd]
 have hd:(c==45||digU c)=false:=by simpa using hd
 rw [Bool.or_eq_false_iff] at hd
 have hwl:wrdU c=letU c:=by unfold wrdU;rw [hd.2,Bool.or_false]
 rw [hwl]
 by_cases hw:letU c=true
 . rw [if_pos hw,if_pos hw]
   by_cases hl:spanN wrdU r+1>64
   . rw [if_pos hl,if_pos hl]
     exact ⟨fun k t n h=>(by cases h),fun e h=>by cases h;exact f3 _ rfl⟩
   . rw [if_neg hl,if_neg hl]
     refine ⟨fun k t n h => ?_,fun e h=>by cases h⟩
     cases h
     rw [show i+1+spanN wrdU r=i+(spanN wrdU r+1) by omega]
 rw [if_neg hw,if_neg hw]
 by_cases h34:(c==34)=true
 . rw [if_pos h34,if_pos h34]
   cases hn:litN r with
   |none=>exact ⟨fun k t n h=>(by cases h),fun e h=>by cases h;exact f3 _ rfl⟩
   |some n =>
    dsimp only
    cases hu:unquoteU (c::r.take n) with
    |none=>exact ⟨fun k t n h=>(by cases h),fun e h=>by cases h;exact ⟨by decide,_,_,rfl⟩⟩
    |some t =>
     refine ⟨fun k t n h => ?_,fun e h=>by cases h⟩
     cases h
     show tupR ⟨4,t,i⟩ (i+1+n) 0=tupR ⟨4,t,i⟩ (i+(n+1)) 0
     rw [show i+1+n=i+(n+1) by omega]
 . rw [if_neg h34,if_neg h34]
   exact ⟨fun k t n h=>(by cases h),fun e h=>by cases h;exact f3 _ rfl⟩
theorem zHH:z8 Tryz.prog 56=some (89,32):=by kernel_rfl
def scanG (f:Nat) (l:List UInt8) (k:Nat):Except (Nat × Int) (List Tok):=
 match l with
 |[] => .ok [⟨5,[],k⟩]
 |c::r=>match zDA (c::r) k with
  |.error e => .error (k,e)
  |.ok (t,n)=>match scanF f ((c::r).drop n) (k+n) with
   |.error e => .error e
   |.ok ts => .ok (t::ts)
theorem zJ4 (f:Nat) (l:List UInt8) (i:Nat):scanF (f+1) l i=scanG f (l.drop (skipM false l)) (i+skipM false l):=by
 have hle:=zAo false l
 rw [scanF]
 unfold scanG
 cases h:l.drop (skipM false l) with
 |nil =>
  have:=congrArg List.length h
  rw [List.length_drop] at this
  have e:skipM false l=l.length:=by simp at this;omega
  rw [e]
 |cons c r=>rfl
def zIs (acc:List Tok):Except (Nat × Int) (List Tok)->Except (Nat × Int) (List Tok)
 |.error e => .error e
 |.ok ts => .ok (acc++ts)
noncomputable def scanW:Except (Nat × Int) (List Tok)->V
 |.ok ts => .tup [.sl 89 (ts.map tokD),.c (.int .i64 0),.c (.int .i64 0)]
 |.error x => .tup [.c (.slice none 0 0),.c (.int .i64 (x.1:Int)),.c (.int .i64 x.2)]
theorem zFw (r:Except (Nat × Int) (List Tok)):(scanW r).pure=true:=by cases r<;>rfl
noncomputable def HSn (s:List UInt8) (k:Nat) (acc:List Tok):Vst 44:=
 stS 44 [(0,.c (.string (bs s))),(5,.own 5 89 (acc.map tokD)),(6,.c (.int .i64 (k:Int)))] [(5,.tok 89 (acc.map tokD).length)]
theorem scan_big (s:List UInt8) (hs:65536<s.length) (hs2:s.length<=4000000000):AC EN5 Tryz.prog 23 [.c (.string (bs s))] (scanW (zAp s)):=by
 have hz:=zk s
 have e:zAp s = .error (65536,4):=by unfold zAp;rw [if_pos hs]
 have f0:decide (((bs s).size:Int)>65536)=true:=decide_eq_true (by omega)
 rw [e]
 refine zP 44 Tryz.func23 rfl rfl rfl (zFw _) ?_
 intro s0 w he
 repeat' (first
|apply zG
 . conv=>lhs;whnf
 . assumption
|refine zA ?_
|refine zB ?_
|refine zF ?_
|apply aw_1
 conv=>whnf
 refine ⟨?_,trivial⟩
|apply s_1
 conv=>whnf;arg 1;arg 4;arg 3;whnf
 refine ⟨?_,?_⟩
|refine zQ ?_
|refine zE ?_
|exact trivial)
 . exact ⟨_,_,_,rfl,rfl,rfl,rfl⟩
 all_goals exact (show Tryz.prog.underlying _=some TypeDesc.string by kernel_rfl)
theorem scan_ac (s:List UInt8) (hs:s.length<=4000000000):AC EN5 Tryz.prog 23 [.c (.string (bs s))] (scanW (zAp s)):=by
 by_cases hbig:65536<s.length
 . exact scan_big s hbig hs
 have hz:=zk s
 have f0:decide (((bs s).size:Int)>65536)=false:=decide_eq_false (by omega)
 have hsk0:=skip_ac s 0 (by omega) (by omega)
 rw [Nat.zero_add,List.drop_zero] at hsk0
 have hkl:=zAo false s
 have e0:zAp s=zIs [] (scanG s.length (s.drop (skipM false s)) (skipM false s)):=by
  unfold zAp
  rw [if_neg hbig,zJ4,Nat.zero_add]
  cases scanG s.length (s.drop (skipM false s)) (skipM false s)<;>rfl
 refine zP 44 Tryz.func23 rfl rfl rfl (zFw _) ?_
 intro s0 w he
 repeat' (first
|apply zD
 . conv=>lhs;whnf
 . assumption
|refine zA ?_
|refine zB ?_
|refine zF ?_
|apply aw_1
 conv=>whnf
 refine ⟨?_,trivial⟩
|apply s_1
 conv=>whnf;arg 1;arg 4;arg 3;whnf
 refine ⟨?_,?_⟩
|apply zi rfl
 . conv=>lhs;whnf
 . conv=>lhs;whnf
 . first | exact hsk0
|exact trivial)
 refine zg (Sub.own (t:=5) (e:=89) rfl rfl) ?_
 refine zn (fun j st => ∃ k acc f,k+j=s.length/\acc.length<=k/\s.length<f+k+1/\zAp s=zIs acc (scanG f (s.drop k) k)/\Sub (cx EN5 Tryz.prog s0 w he) st (HSn s k acc)) (s.length-skipM false s) ⟨skipM false s,[],s.length,by omega,by simp,by omega,e0,?_⟩ ?_
 . exact Sub.live ⟨rfl,rfl,rfl,trivial⟩ ⟨rfl,trivial⟩
 rintro j st ⟨k,acc,f,hkj,hacc,hf,hI,hs2⟩
 refine zg hs2 ?_
 clear hs2 hsk0
 rw [hI]
 clear hI e0
 by_cases hk:k<s.length
 . have f1:decide ((k:Int)<((bs s).size:Nat))=true:=decide_eq_true (by omega)
   have hrd:=read_ac hk (by omega)
   have hdr:s.drop k=s[k]::s.drop (k+1):=List.drop_eq_getElem_cons hk
   obtain ⟨r1,r2⟩:=zKC s[k] (s.drop (k+1)) k
   rw [hdr] at hrd |-
   cases hr:readU (s[k]::s.drop (k+1)) with
   |error e =>
    obtain ⟨he0,t',k',ht⟩:=r2 e hr
    rw [ht] at hrd
    unfold tupR at hrd
    have hrt:zDA (s[k]::s.drop (k+1)) k = .error e:=by unfold zDA;rw [hr]
    have eG:scanG f (s[k]::s.drop (k+1)) k = .error (k,e):=by unfold scanG;simp only [hrt]
    rw [eG]
    have f2:(e != 0)=true:=by simpa using he0
    repeat' (first
|apply zG
 . conv=>lhs;whnf
 . assumption
|refine zA ?_
|refine zB ?_
|refine zF ?_
|apply aw_1
 conv=>whnf
 refine ⟨?_,trivial⟩
|apply s_1
 conv=>whnf;arg 1;arg 4;arg 3;whnf
 refine ⟨?_,?_⟩
|apply zi rfl
 . conv=>lhs;whnf
 . conv=>lhs;whnf
 . first | exact hrd
|apply zI rfl rfl rfl
 . conv=>lhs;whnf
 . conv=>lhs;whnf;arg 1;whnf
 . conv=>lhs;whnf;arg 1;whnf
 . exact ⟨by kernel_rfl,by kernel_rfl⟩
 . rfl
|refine zQ ?_
|refine zV ?_
|refine zw ?_
|refine zE ?_
|exact trivial)
    . exact ⟨_,_,_,rfl,rfl,rfl,rfl⟩
    all_goals exact (show Tryz.prog.underlying _=some TypeDesc.string by kernel_rfl)
   |ok p =>
    obtain ⟨kk,t,n⟩:=p
    have hn:=zCF hr
    have hdl:(s[k]::s.drop (k+1)).length=s.length-k:=by rw [<- hdr,List.length_drop]
    rw [hdl] at hn
    rw [r1 kk t n hr] at hrd
    unfold tupR at hrd
    have hsk:=skip_ac s (k+n) (by omega) (by omega)
    have hsl:=zAo false (s.drop (k+n))
    rw [List.length_drop] at hsl
    have hrt:zDA (s[k]::s.drop (k+1)) k = .ok (⟨kk,t,k⟩,n):=by unfold zDA;rw [hr]
    obtain ⟨f',rfl⟩ : ∃ f',f=f'+1:=⟨f-1,by omega⟩
    have hdn:(s[k]::s.drop (k+1)).drop n=s.drop (k+n):=by rw [<- hdr,List.drop_drop]
    have eG:zIs acc (scanG (f'+1) (s[k]::s.drop (k+1)) k)=zIs (acc++[⟨kk,t,k⟩]) (scanG f' (s.drop (k+n+skipM false (s.drop (k+n)))) (k+n+skipM false (s.drop (k+n)))):=by
     conv=>lhs;unfold scanG
     simp only [hrt,hdn]
     rw [zJ4,List.drop_drop]
     cases scanG f' (s.drop (k+n+skipM false (s.drop (k+n)))) (k+n+skipM false (s.drop (k+n))) with
     |error x=>rfl
     |ok ts=>show Except.ok (acc++_::ts)=Except.ok ((acc++[_])++ts);rw [List.append_assoc];rfl
    rw [eG]
    repeat' (first
|apply zBW [tokD ⟨kk,t,k⟩] rfl rfl
 . conv=>lhs;whnf
 . first | exact zHH | (conv=>lhs;whnf;arg 1;whnf)
 . rfl
 . rfl
 . repeat' (first | exact trivial | apply And.intro | rfl)
|apply zG
 . conv=>lhs;whnf
 . assumption
|refine zA ?_
|refine zB ?_
|refine zF ?_
|refine zZ ?_
|apply aw_1
 conv=>whnf
 refine ⟨?_,trivial⟩
|apply s_1
 conv=>whnf;arg 1;arg 4;arg 3;whnf
 refine ⟨?_,?_⟩
|apply zi rfl
 . conv=>lhs;whnf
 . conv=>lhs;whnf
 . first | exact hrd | exact hsk
|apply zI rfl rfl rfl
 . conv=>lhs;whnf
 . conv=>lhs;whnf;arg 1;whnf
 . conv=>lhs;whnf;arg 1;whnf
 . exact ⟨by kernel_rfl,by kernel_rfl⟩
 . rfl
|apply zBK rfl rfl
 . conv=>lhs;whnf
 . first | exact zHH | (conv=>lhs;whnf;arg 1;whnf)
 . first | exact fun _=>rfl | (intro _;kernel_rfl)
 . conv=>lhs;whnf
 . conv=>lhs;whnf;arg 1;whnf
 . conv=>lhs;whnf
|exact trivial)
    . refine zJ (j':=j-(n+skipM false (s.drop (k+n)))) (by omega) ⟨k+n+skipM false (s.drop (k+n)),acc++[⟨kk,t,k⟩],f',by omega,by rw [List.length_append];simp only [List.length_cons,List.length_nil];omega,by omega,rfl,Sub.live ⟨rfl,?_,rfl,trivial⟩ ⟨?_,trivial⟩⟩
      . show V.own 5 _ (acc.map tokD++[tokD ⟨kk,t,k⟩])=V.own 5 _ ((acc++[(⟨kk,t,k⟩:Tok)]).map tokD)
        rw [List.map_append];rfl
      . show some (Res.tok _ ((acc.map tokD).length+1))=some (Res.tok _ ((acc++[(⟨kk,t,k⟩:Tok)]).map tokD).length)
        simp
    . refine ⟨by simp,?_,?_⟩<;>simp only [List.length_cons,List.length_nil,List.length_map,maxLen]<;>omega
    . exact (show Tryz.prog.underlying _=some TypeDesc.string by kernel_rfl)
 . have f1:decide ((k:Int)<((bs s).size:Nat))=false:=decide_eq_false (by omega)
   have hdr:s.drop k=[]:=List.drop_of_length_le (by omega)
   rw [hdr]
   have ek:k=s.length:=by omega
   repeat' (first
|apply zBW [tokD ⟨5,[],(bs s).size⟩] rfl rfl
 . conv=>lhs;whnf
 . first | exact zHH | (conv=>lhs;whnf;arg 1;whnf)
 . rfl
 . rfl
 . repeat' (first | exact trivial | apply And.intro | rfl)
|apply zD
 . conv=>lhs;whnf
 . assumption
|refine zA ?_
|refine zB ?_
|refine zF ?_
|apply aw_1
 conv=>whnf
 refine ⟨?_,trivial⟩
|apply s_1
 conv=>whnf;arg 1;arg 4;arg 3;whnf
 refine ⟨?_,?_⟩
|apply zBK rfl rfl
 . conv=>lhs;whnf
 . first | exact zHH | (conv=>lhs;whnf;arg 1;whnf)
 . first | exact fun _=>rfl | (intro _;kernel_rfl)
 . conv=>lhs;whnf
 . conv=>lhs;whnf;arg 1;whnf
 . conv=>lhs;whnf
|refine zO ?_
|refine zL rfl ?_
|refine zM ?_
|refine zE ?_
|exact trivial)
   . refine ⟨_,_,_,rfl,rfl,rfl,?_⟩
     show V.tup [.sl 89 ((acc++[(⟨5,[],k⟩:Tok)]).map tokD),.c (.int .i64 0),.c (.int .i64 0)]=V.tup [.sl 89 (acc.map tokD++[tokD ⟨5,[],(bs s).size⟩]),.c (.int .i64 0),.c (.int .i64 0)]
     rw [ek,hz,List.map_append];rfl
   . refine ⟨by simp,?_,?_⟩<;>simp only [List.length_cons,List.length_nil,List.length_map,maxLen]<;>omega
   all_goals exact (show Tryz.prog.underlying _=some TypeDesc.string by kernel_rfl)
 exact (show Tryz.prog.underlying _=some TypeDesc.string by kernel_rfl)
end
section
open Go.RowKit
set_option linter.unusedSectionVars false
attribute [local irreducible] wpList Calls Code.wp AW AWo OpOk seqK zq zu loopK endK AC zf Yld Sub
attribute [local irreducible] ACB ACX ACE absLexG YldG absLexH
section
variable {s:List UInt8} {i:Nat} (hi:i<s.length) (hs:s.length<=70000)
include hi hs
theorem one_sign (h:signB s[i]=true):AC EN5 Tryz.prog 37 [.c (.string (bs s)),.c (.int .i64 (i:Int))] (tupR ⟨1,[s[i]],i⟩ (i+1) 0):=by
 have hz:=zk s
 have hbt:=zAK hi
 have hdr:s.drop i=s[i]::s.drop (i+1):=List.drop_eq_getElem_cons hi
 have q : ∀ n:Nat,n<256->(zR (bs s) ((i:Int)).toNat==(n:Int))=(s[i]==UInt8.ofNat n):=fun n hn=>by rw [hbt];exact zBI _ n hn
 have hsg:=zAy s[i]
 have hlt:=zAL s[i]
 have hdg:=zAY s[i]
 rw [<- hbt] at hsg hlt hdg
 rw [h] at hsg
 have hx:(bs s).extract ((i:Int)).toNat (((i:Int)+1)).toNat=bs [s[i]]:=by
  rw [show (((i:Int)+1)).toNat=i+1 by omega,Int.toNat_natCast,zCi s (by omega) (by omega),hdr,Nat.add_sub_cancel_left];rfl
 refine zP 115 Tryz.func37 rfl rfl rfl rfl ?_
 intro s0 w he
 repeat' (first
|refine zA ?_
|refine zB ?_
|refine zF ?_
|apply aw_1
 conv=>whnf
 refine ⟨?_,trivial⟩
|apply s_1
 conv=>whnf;arg 1;arg 4;arg 3;whnf
 refine ⟨?_,?_⟩
|apply zi rfl
 . conv=>lhs;whnf
 . conv=>lhs;whnf
 . first | exact hsg
|apply zI rfl rfl rfl
 . conv=>lhs;whnf
 . conv=>lhs;whnf;arg 1;whnf
 . conv=>lhs;whnf;arg 1;whnf
 . exact ⟨by kernel_rfl,by kernel_rfl⟩
 . rfl
|refine zQ ?_
|refine zE ?_
|exact trivial)
 . refine ⟨_,_,_,rfl,rfl,rfl,?_⟩
   show _=V.tup [.agg [.c (.int .i64 1),.c (.string ((bs s).extract ((i:Int)).toNat (((i:Int)+1)).toNat)),.c (.int .i64 (i:Int))],.c (.int .i64 ((i:Int)+1)),.c (.int .i64 0)]
   rw [hx];rfl
 all_goals first
  |exact zU (by omega)
  |exact ⟨by kernel_rfl,by omega,by omega⟩
  |exact ⟨by kernel_rfl,by omega,by omega,by omega⟩
  |exact (show Tryz.prog.underlying _=some TypeDesc.string by kernel_rfl)
  |skip
theorem one_dots (h0:signB s[i]=false) (h:s[i]=46) (h3:i+3<=s.length) (hd:(s.drop (i+1)).take 2=[46,46]):AC EN5 Tryz.prog 37 [.c (.string (bs s)),.c (.int .i64 (i:Int))] (tupR ⟨1,[46,46,46],i⟩ (i+3) 0):=by
 have hz:=zk s
 have hbt:=zAK hi
 have hdr:s.drop i=s[i]::s.drop (i+1):=List.drop_eq_getElem_cons hi
 have q : ∀ n:Nat,n<256->(zR (bs s) ((i:Int)).toNat==(n:Int))=(s[i]==UInt8.ofNat n):=fun n hn=>by rw [hbt];exact zBI _ n hn
 have hsg:=zAy s[i]
 have hlt:=zAL s[i]
 have hdg:=zAY s[i]
 rw [<- hbt] at hsg hlt hdg
 rw [h0] at hsg
 have f1:(zR (bs s) ((i:Int)).toNat==46)=true:=(q 46 (by omega)).trans (by rw [h];rfl)
 have g1:((zR (bs s) ((i:Int)).toNat==46)==true)=true:=by rw [f1];rfl
 have f2:decide ((i:Int)+3<=((bs s).size:Nat))=true:=decide_eq_true (by omega)
 have g2:(decide ((i:Int)+3<=((bs s).size:Nat))==true)=true:=by rw [f2];rfl
 have hx:(bs s).extract ((i:Int)).toNat (((i:Int)+3)).toNat=bs [46,46,46]:=by
  rw [show (((i:Int)+3)).toNat=i+3 by omega,Int.toNat_natCast,zCi s (by omega) (by omega),hdr,Nat.add_sub_cancel_left,h,List.take_succ_cons,hd]
 have f3:(((bs s).extract ((i:Int)).toNat (((i:Int)+3)).toNat).toList==({ data:=#[46,46,46] }:ByteArray).toList)=true:=by rw [hx,Lib.toList_data,Lib.toList_data,zAH];rfl
 refine zP 115 Tryz.func37 rfl rfl rfl rfl ?_
 intro s0 w he
 repeat' (first
|apply zG
 . conv=>lhs;whnf
 . assumption
|refine zA ?_
|refine zB ?_
|refine zF ?_
|apply aw_1
 conv=>whnf
 refine ⟨?_,trivial⟩
|apply zX rfl rfl
 . conv=>lhs;whnf
 . conv=>lhs;whnf
 . first | exact bT1 ‹_› | exact bT2 ‹_›
|apply s_1
 conv=>whnf;arg 1;arg 4;arg 3;whnf
 refine ⟨?_,?_⟩
|apply zi rfl
 . conv=>lhs;whnf
 . conv=>lhs;whnf
 . first | exact hsg
|apply zI rfl rfl rfl
 . conv=>lhs;whnf
 . conv=>lhs;whnf;arg 1;whnf
 . conv=>lhs;whnf;arg 1;whnf
 . exact ⟨by kernel_rfl,by kernel_rfl⟩
 . rfl
|apply zC rfl
 . conv=>lhs;whnf
 . conv=>lhs;whnf
 . first | rfl | assumption
 . conv=>lhs;whnf;arg 2;whnf
|refine zQ ?_
|refine zE ?_
|exact trivial)
 . exact ⟨_,_,_,rfl,rfl,rfl,rfl⟩
 all_goals first
  |exact zU (by omega)
  |exact ⟨by kernel_rfl,by omega,by omega⟩
  |exact ⟨by kernel_rfl,by omega,by omega,by omega⟩
  |exact (show Tryz.prog.underlying _=some TypeDesc.string by kernel_rfl)
  |skip
theorem one_word (h0:signB s[i]=false) (h46:s[i]≠46) (hl:letU s[i]=true) (hlen:spanN wrdU (s.drop (i+1))+1<=64):AC EN5 Tryz.prog 37 [.c (.string (bs s)),.c (.int .i64 (i:Int))] (tupR ⟨2,s[i]::(s.drop (i+1)).take (spanN wrdU (s.drop (i+1))),i⟩ (i+1+spanN wrdU (s.drop (i+1))) 0):=by
 have hz:=zk s
 have hbt:=zAK hi
 have hdr:s.drop i=s[i]::s.drop (i+1):=List.drop_eq_getElem_cons hi
 have q : ∀ n:Nat,n<256->(zR (bs s) ((i:Int)).toNat==(n:Int))=(s[i]==UInt8.ofNat n):=fun n hn=>by rw [hbt];exact zBI _ n hn
 have hsg:=zAy s[i]
 have hlt:=zAL s[i]
 have hdg:=zAY s[i]
 rw [<- hbt] at hsg hlt hdg
 rw [h0] at hsg
 have f1:(zR (bs s) ((i:Int)).toNat==46)=false:=(q 46 (by omega)).trans (by simpa using h46)
 have g1:((zR (bs s) ((i:Int)).toNat==46)==true)=false:=by rw [f1];rfl
 have hle:=zAx wrdU (s.drop (i+1))
 rw [List.length_drop] at hle
 rw [hl] at hlt
 have hsp:=zEL s i (by omega) (by omega)
 have hw:wrdU s[i]=true:=by unfold wrdU;rw [hl];rfl
 have e1:i+spanN wrdU (s.drop i)=i+1+spanN wrdU (s.drop (i+1)):=by rw [hdr,spanN,if_pos hw];omega
 rw [e1] at hsp
 generalize spanN wrdU (s.drop (i+1))=n at *
 have f2:decide (((i+1+n:Nat):Int)-(i:Int)>64)=false:=decide_eq_false (by omega)
 have hx:(bs s).extract ((i:Int)).toNat (((i+1+n:Nat):Int)).toNat=bs (s[i]::(s.drop (i+1)).take n):=by
  rw [Int.toNat_natCast,Int.toNat_natCast,zCi s (by omega) (by omega),hdr,show i+1+n-i=n+1 by omega,List.take_succ_cons]
 refine zP 115 Tryz.func37 rfl rfl rfl rfl ?_
 intro s0 w he
 repeat' (first
|apply zD
 . conv=>lhs;whnf
 . assumption
|refine zA ?_
|refine zB ?_
|refine zF ?_
|apply aw_1
 conv=>whnf
 refine ⟨?_,trivial⟩
|apply zT rfl rfl
 . conv=>lhs;whnf
 . conv=>lhs;whnf
 . first | exact bF1 ‹_› | exact bF2 ‹_›
|apply s_1
 conv=>whnf;arg 1;arg 4;arg 3;whnf
 refine ⟨?_,?_⟩
|apply zi rfl
 . conv=>lhs;whnf
 . conv=>lhs;whnf
 . first | exact hsg | exact hlt | exact hsp
|apply zI rfl rfl rfl
 . conv=>lhs;whnf
 . conv=>lhs;whnf;arg 1;whnf
 . conv=>lhs;whnf;arg 1;whnf
 . exact ⟨by kernel_rfl,by kernel_rfl⟩
 . rfl
|apply zW rfl
 . conv=>lhs;whnf
 . conv=>lhs;whnf
 . first | rfl | assumption
|refine zQ ?_
|refine zE ?_
|exact trivial)
 . refine ⟨_,_,_,rfl,rfl,rfl,?_⟩
   show _=V.tup [.agg [.c (.int .i64 2),.c (.string ((bs s).extract ((i:Int)).toNat (((i+1+n:Nat):Int)).toNat)),.c (.int .i64 (i:Int))],.c (.int .i64 ((i+1+n:Nat):Int)),.c (.int .i64 0)]
   rw [hx];rfl
 all_goals first
  |exact zU (by omega)
  |exact ⟨by kernel_rfl,by omega,by omega⟩
  |exact ⟨by kernel_rfl,by omega,by omega,by omega⟩
  |exact (show Tryz.prog.underlying _=some TypeDesc.string by kernel_rfl)
  |skip
theorem one_long (h0:signB s[i]=false) (h46:s[i]≠46) (hl:letU s[i]=true) (hlen : ¬ spanN wrdU (s.drop (i+1))+1<=64):AC EN5 Tryz.prog 37 [.c (.string (bs s)),.c (.int .i64 (i:Int))] failR:=by
 have hz:=zk s
 have hbt:=zAK hi
 have hdr:s.drop i=s[i]::s.drop (i+1):=List.drop_eq_getElem_cons hi
 have q : ∀ n:Nat,n<256->(zR (bs s) ((i:Int)).toNat==(n:Int))=(s[i]==UInt8.ofNat n):=fun n hn=>by rw [hbt];exact zBI _ n hn
 have hsg:=zAy s[i]
 have hlt:=zAL s[i]
 have hdg:=zAY s[i]
 rw [<- hbt] at hsg hlt hdg
 rw [h0] at hsg
 have f1:(zR (bs s) ((i:Int)).toNat==46)=false:=(q 46 (by omega)).trans (by simpa using h46)
 have g1:((zR (bs s) ((i:Int)).toNat==46)==true)=false:=by rw [f1];rfl
 have hle:=zAx wrdU (s.drop (i+1))
 rw [List.length_drop] at hle
 rw [hl] at hlt
 have hsp:=zEL s i (by omega) (by omega)
 have hw:wrdU s[i]=true:=by unfold wrdU;rw [hl];rfl
 have e1:i+spanN wrdU (s.drop i)=i+1+spanN wrdU (s.drop (i+1)):=by rw [hdr,spanN,if_pos hw];omega
 rw [e1] at hsp
 generalize spanN wrdU (s.drop (i+1))=n at *
 have f2:decide (((i+1+n:Nat):Int)-(i:Int)>64)=true:=decide_eq_true (by omega)
 refine zP 115 Tryz.func37 rfl rfl rfl rfl ?_
 intro s0 w he
 repeat' (first
|apply zG
 . conv=>lhs;whnf
 . assumption
|refine zA ?_
|refine zB ?_
|refine zF ?_
|apply aw_1
 conv=>whnf
 refine ⟨?_,trivial⟩
|apply zT rfl rfl
 . conv=>lhs;whnf
 . conv=>lhs;whnf
 . first | exact bF1 ‹_› | exact bF2 ‹_›
|apply s_1
 conv=>whnf;arg 1;arg 4;arg 3;whnf
 refine ⟨?_,?_⟩
|apply zi rfl
 . conv=>lhs;whnf
 . conv=>lhs;whnf
 . first | exact hsg | exact hlt | exact hsp
|apply zI rfl rfl rfl
 . conv=>lhs;whnf
 . conv=>lhs;whnf;arg 1;whnf
 . conv=>lhs;whnf;arg 1;whnf
 . exact ⟨by kernel_rfl,by kernel_rfl⟩
 . rfl
|apply zW rfl
 . conv=>lhs;whnf
 . conv=>lhs;whnf
 . first | rfl | assumption
|refine zQ ?_
|refine zE ?_
|exact trivial)
 . exact ⟨_,_,_,rfl,rfl,rfl,rfl⟩
 all_goals first
  |exact zU (by omega)
  |exact ⟨by kernel_rfl,by omega,by omega⟩
  |exact ⟨by kernel_rfl,by omega,by omega,by omega⟩
  |exact (show Tryz.prog.underlying _=some TypeDesc.string by kernel_rfl)
  |skip
theorem one_dig (h0:signB s[i]=false) (h46:s[i]≠46) (hl:letU s[i]=false) (hd:digU s[i]=true):AC EN5 Tryz.prog 37 [.c (.string (bs s)),.c (.int .i64 (i:Int))] (tupR ⟨3,s[i]::(s.drop (i+1)).take (spanN wrdU (s.drop (i+1))),i⟩ (i+1+spanN wrdU (s.drop (i+1))) (nerU (numU (s[i]::(s.drop (i+1)).take (spanN wrdU (s.drop (i+1))))))):=by
 have hz:=zk s
 have hbt:=zAK hi
 have hdr:s.drop i=s[i]::s.drop (i+1):=List.drop_eq_getElem_cons hi
 have q : ∀ n:Nat,n<256->(zR (bs s) ((i:Int)).toNat==(n:Int))=(s[i]==UInt8.ofNat n):=fun n hn=>by rw [hbt];exact zBI _ n hn
 have hsg:=zAy s[i]
 have hlt:=zAL s[i]
 have hdg:=zAY s[i]
 rw [<- hbt] at hsg hlt hdg
 rw [h0] at hsg
 have f1:(zR (bs s) ((i:Int)).toNat==46)=false:=(q 46 (by omega)).trans (by simpa using h46)
 have g1:((zR (bs s) ((i:Int)).toNat==46)==true)=false:=by rw [f1];rfl
 have hle:=zAx wrdU (s.drop (i+1))
 rw [List.length_drop] at hle
 rw [hl] at hlt
 have hsp:=zEL s (i+1) (by omega) (by omega)
 generalize hn:spanN wrdU (s.drop (i+1))=n at *
 have hx:(bs s).extract ((i:Int)).toNat (((i+1+n:Nat):Int)).toNat=bs (s[i]::(s.drop (i+1)).take n):=by
  rw [Int.toNat_natCast,Int.toNat_natCast,zCi s (by omega) (by omega),hdr,show i+1+n-i=n+1 by omega,List.take_succ_cons]
 have hsz:((bs s).extract ((i:Int)).toNat (((i+1+n:Nat):Int)).toNat).size<=281474976710656:=by rw [ByteArray.size_extract];omega
 have hnu:=zDs _ hsz
 unfold zJH at hnu
 have htx:tx ((bs s).extract ((i:Int)).toNat (((i+1+n:Nat):Int)).toNat)=s[i]::(s.drop (i+1)).take n:=by rw [hx];exact zAH _
 rw [htx] at hnu
 have g2:(digU s[i]==false)=false:=by rw [hd];rfl
 have f3:=hd
 refine zP 115 Tryz.func37 rfl rfl rfl rfl ?_
 intro s0 w he
 repeat' (first
|refine zA ?_
|refine zB ?_
|refine zF ?_
|apply aw_1
 conv=>whnf
 refine ⟨?_,trivial⟩
|apply zX rfl rfl
 . conv=>lhs;whnf
 . conv=>lhs;whnf
 . first | exact bT1 ‹_› | exact bT2 ‹_›
|apply zT rfl rfl
 . conv=>lhs;whnf
 . conv=>lhs;whnf
 . first | exact bF1 ‹_› | exact bF2 ‹_›
|apply s_1
 conv=>whnf;arg 1;arg 4;arg 3;whnf
 refine ⟨?_,?_⟩
|apply zi rfl
 . conv=>lhs;whnf
 . conv=>lhs;whnf
 . first | exact hsg | exact hlt | exact hdg | exact hsp | exact hnu
|apply zI rfl rfl rfl
 . conv=>lhs;whnf
 . conv=>lhs;whnf;arg 1;whnf
 . conv=>lhs;whnf;arg 1;whnf
 . exact ⟨by kernel_rfl,by kernel_rfl⟩
 . rfl
|apply zW rfl
 . conv=>lhs;whnf
 . conv=>lhs;whnf
 . first | rfl | assumption
|refine zQ ?_
|refine zE ?_
|exact trivial)
 . refine ⟨_,_,_,rfl,rfl,rfl,?_⟩
   show _=V.tup [.agg [.c (.int .i64 3),.c (.string ((bs s).extract ((i:Int)).toNat (((i+1+n:Nat):Int)).toNat)),.c (.int .i64 (i:Int))],.c (.int .i64 ((i+1+n:Nat):Int)),.c (.int .i64 (nerU (numU (s[i]::(s.drop (i+1)).take n))))]
   rw [hx];rfl
 all_goals first
  |exact zU (by omega)
  |exact ⟨by kernel_rfl,by omega,by omega⟩
  |exact ⟨by kernel_rfl,by omega,by omega,by omega⟩
  |exact (show Tryz.prog.underlying _=some TypeDesc.string by kernel_rfl)
  |skip
theorem one_neg (h0:signB s[i]=false) (h46:s[i]≠46) (hl:letU s[i]=false) (hd:digU s[i]=false) (h45:s[i]=45):AC EN5 Tryz.prog 37 [.c (.string (bs s)),.c (.int .i64 (i:Int))] (tupR ⟨3,s[i]::(s.drop (i+1)).take (spanN wrdU (s.drop (i+1))),i⟩ (i+1+spanN wrdU (s.drop (i+1))) (nerU (numU (s[i]::(s.drop (i+1)).take (spanN wrdU (s.drop (i+1))))))):=by
 have hz:=zk s
 have hbt:=zAK hi
 have hdr:s.drop i=s[i]::s.drop (i+1):=List.drop_eq_getElem_cons hi
 have q : ∀ n:Nat,n<256->(zR (bs s) ((i:Int)).toNat==(n:Int))=(s[i]==UInt8.ofNat n):=fun n hn=>by rw [hbt];exact zBI _ n hn
 have hsg:=zAy s[i]
 have hlt:=zAL s[i]
 have hdg:=zAY s[i]
 rw [<- hbt] at hsg hlt hdg
 rw [h0] at hsg
 have f1:(zR (bs s) ((i:Int)).toNat==46)=false:=(q 46 (by omega)).trans (by simpa using h46)
 have g1:((zR (bs s) ((i:Int)).toNat==46)==true)=false:=by rw [f1];rfl
 have hle:=zAx wrdU (s.drop (i+1))
 rw [List.length_drop] at hle
 rw [hl] at hlt
 have hsp:=zEL s (i+1) (by omega) (by omega)
 generalize hn:spanN wrdU (s.drop (i+1))=n at *
 have hx:(bs s).extract ((i:Int)).toNat (((i+1+n:Nat):Int)).toNat=bs (s[i]::(s.drop (i+1)).take n):=by
  rw [Int.toNat_natCast,Int.toNat_natCast,zCi s (by omega) (by omega),hdr,show i+1+n-i=n+1 by omega,List.take_succ_cons]
 have hsz:((bs s).extract ((i:Int)).toNat (((i+1+n:Nat):Int)).toNat).size<=281474976710656:=by rw [ByteArray.size_extract];omega
 have hnu:=zDs _ hsz
 unfold zJH at hnu
 have htx:tx ((bs s).extract ((i:Int)).toNat (((i+1+n:Nat):Int)).toNat)=s[i]::(s.drop (i+1)).take n:=by rw [hx];exact zAH _
 rw [htx] at hnu
 have g2:(digU s[i]==false)=true:=by rw [hd];rfl
 have f3:(zR (bs s) ((i:Int)).toNat==45)=true:=(q 45 (by omega)).trans (by rw [h45];rfl)
 refine zP 115 Tryz.func37 rfl rfl rfl rfl ?_
 intro s0 w he
 repeat' (first
|apply zG
 . conv=>lhs;whnf
 . assumption
|refine zA ?_
|refine zB ?_
|refine zF ?_
|apply aw_1
 conv=>whnf
 refine ⟨?_,trivial⟩
|apply zT rfl rfl
 . conv=>lhs;whnf
 . conv=>lhs;whnf
 . first | exact bF1 ‹_› | exact bF2 ‹_›
|apply s_1
 conv=>whnf;arg 1;arg 4;arg 3;whnf
 refine ⟨?_,?_⟩
|apply zi rfl
 . conv=>lhs;whnf
 . conv=>lhs;whnf
 . first | exact hsg | exact hlt | exact hdg | exact hsp | exact hnu
|apply zI rfl rfl rfl
 . conv=>lhs;whnf
 . conv=>lhs;whnf;arg 1;whnf
 . conv=>lhs;whnf;arg 1;whnf
 . exact ⟨by kernel_rfl,by kernel_rfl⟩
 . rfl
|apply zC rfl
 . conv=>lhs;whnf
 . conv=>lhs;whnf
 . first | rfl | assumption
 . conv=>lhs;whnf;arg 2;whnf
|apply zW rfl
 . conv=>lhs;whnf
 . conv=>lhs;whnf
 . first | rfl | assumption
|refine zQ ?_
|refine zE ?_
|exact trivial)
 . refine ⟨_,_,_,rfl,rfl,rfl,?_⟩
   show _=V.tup [.agg [.c (.int .i64 3),.c (.string ((bs s).extract ((i:Int)).toNat (((i+1+n:Nat):Int)).toNat)),.c (.int .i64 (i:Int))],.c (.int .i64 ((i+1+n:Nat):Int)),.c (.int .i64 (nerU (numU (s[i]::(s.drop (i+1)).take n))))]
   rw [hx];rfl
 all_goals first
  |exact zU (by omega)
  |exact ⟨by kernel_rfl,by omega,by omega⟩
  |exact ⟨by kernel_rfl,by omega,by omega,by omega⟩
  |exact (show Tryz.prog.underlying _=some TypeDesc.string by kernel_rfl)
  |skip
theorem one_none (h0:signB s[i]=false) (h46:s[i]≠46) (hl:letU s[i]=false) (hd:digU s[i]=false) (h45:s[i]≠45) (h34:s[i]≠34):AC EN5 Tryz.prog 37 [.c (.string (bs s)),.c (.int .i64 (i:Int))] failR:=by
 have hz:=zk s
 have hbt:=zAK hi
 have hdr:s.drop i=s[i]::s.drop (i+1):=List.drop_eq_getElem_cons hi
 have q : ∀ n:Nat,n<256->(zR (bs s) ((i:Int)).toNat==(n:Int))=(s[i]==UInt8.ofNat n):=fun n hn=>by rw [hbt];exact zBI _ n hn
 have hsg:=zAy s[i]
 have hlt:=zAL s[i]
 have hdg:=zAY s[i]
 rw [<- hbt] at hsg hlt hdg
 rw [h0] at hsg
 have f1:(zR (bs s) ((i:Int)).toNat==46)=false:=(q 46 (by omega)).trans (by simpa using h46)
 have g1:((zR (bs s) ((i:Int)).toNat==46)==true)=false:=by rw [f1];rfl
 rw [hl] at hlt
 have g2:(digU s[i]==false)=true:=by rw [hd];rfl
 have f3:(zR (bs s) ((i:Int)).toNat==45)=false:=(q 45 (by omega)).trans (by simpa using h45)
 have f4:(zR (bs s) ((i:Int)).toNat==34)=false:=(q 34 (by omega)).trans (by simpa using h34)
 refine zP 115 Tryz.func37 rfl rfl rfl rfl ?_
 intro s0 w he
 repeat' (first
|apply zD
 . conv=>lhs;whnf
 . assumption
|refine zA ?_
|refine zB ?_
|refine zF ?_
|apply aw_1
 conv=>whnf
 refine ⟨?_,trivial⟩
|apply zT rfl rfl
 . conv=>lhs;whnf
 . conv=>lhs;whnf
 . first | exact bF1 ‹_› | exact bF2 ‹_›
|apply s_1
 conv=>whnf;arg 1;arg 4;arg 3;whnf
 refine ⟨?_,?_⟩
|apply zi rfl
 . conv=>lhs;whnf
 . conv=>lhs;whnf
 . first | exact hsg | exact hlt | exact hdg
|apply zI rfl rfl rfl
 . conv=>lhs;whnf
 . conv=>lhs;whnf;arg 1;whnf
 . conv=>lhs;whnf;arg 1;whnf
 . exact ⟨by kernel_rfl,by kernel_rfl⟩
 . rfl
|apply zC rfl
 . conv=>lhs;whnf
 . conv=>lhs;whnf
 . first | rfl | assumption
 . conv=>lhs;whnf;arg 2;whnf
|apply zW rfl
 . conv=>lhs;whnf
 . conv=>lhs;whnf
 . first | rfl | assumption
|refine zE ?_
|exact trivial)
 . exact ⟨_,_,_,rfl,rfl,rfl,rfl⟩
 all_goals first
  |exact zU (by omega)
  |exact ⟨by kernel_rfl,by omega,by omega⟩
  |exact ⟨by kernel_rfl,by omega,by omega,by omega⟩
  |exact (show Tryz.prog.underlying _=some TypeDesc.string by kernel_rfl)
  |skip
theorem one_open (h0:signB s[i]=false) (h46:s[i]≠46) (hl:letU s[i]=false) (hd:digU s[i]=false) (h45:s[i]≠45) (h34:s[i]=34) (hn:litN (s.drop (i+1))=none):AC EN5 Tryz.prog 37 [.c (.string (bs s)),.c (.int .i64 (i:Int))] failR:=by
 have hz:=zk s
 have hbt:=zAK hi
 have hdr:s.drop i=s[i]::s.drop (i+1):=List.drop_eq_getElem_cons hi
 have q : ∀ n:Nat,n<256->(zR (bs s) ((i:Int)).toNat==(n:Int))=(s[i]==UInt8.ofNat n):=fun n hn=>by rw [hbt];exact zBI _ n hn
 have hsg:=zAy s[i]
 have hlt:=zAL s[i]
 have hdg:=zAY s[i]
 rw [<- hbt] at hsg hlt hdg
 rw [h0] at hsg
 have f1:(zR (bs s) ((i:Int)).toNat==46)=false:=(q 46 (by omega)).trans (by simpa using h46)
 have g1:((zR (bs s) ((i:Int)).toNat==46)==true)=false:=by rw [f1];rfl
 rw [hl] at hlt
 have g2:(digU s[i]==false)=true:=by rw [hd];rfl
 have f3:(zR (bs s) ((i:Int)).toNat==45)=false:=(q 45 (by omega)).trans (by simpa using h45)
 have f4:(zR (bs s) ((i:Int)).toNat==34)=true:=(q 34 (by omega)).trans (by rw [h34];rfl)
 have hll:=zFR s i hi (by omega)
 have hv:litV s i = -1:=by unfold litV;rw [hn]
 rw [hv] at hll
 refine zP 115 Tryz.func37 rfl rfl rfl rfl ?_
 intro s0 w he
 repeat' (first
|apply zG
 . conv=>lhs;whnf
 . assumption
|apply zD
 . conv=>lhs;whnf
 . assumption
|refine zA ?_
|refine zB ?_
|refine zF ?_
|apply aw_1
 conv=>whnf
 refine ⟨?_,trivial⟩
|apply zT rfl rfl
 . conv=>lhs;whnf
 . conv=>lhs;whnf
 . first | exact bF1 ‹_› | exact bF2 ‹_›
|apply s_1
 conv=>whnf;arg 1;arg 4;arg 3;whnf
 refine ⟨?_,?_⟩
|apply zi rfl
 . conv=>lhs;whnf
 . conv=>lhs;whnf
 . first | exact hsg | exact hlt | exact hdg | exact hll
|apply zI rfl rfl rfl
 . conv=>lhs;whnf
 . conv=>lhs;whnf;arg 1;whnf
 . conv=>lhs;whnf;arg 1;whnf
 . exact ⟨by kernel_rfl,by kernel_rfl⟩
 . rfl
|apply zC rfl
 . conv=>lhs;whnf
 . conv=>lhs;whnf
 . first | rfl | assumption
 . conv=>lhs;whnf;arg 2;whnf
|apply zW rfl
 . conv=>lhs;whnf
 . conv=>lhs;whnf
 . first | rfl | assumption
|refine zQ ?_
|refine zE ?_
|exact trivial)
 . exact ⟨_,_,_,rfl,rfl,rfl,rfl⟩
 all_goals first
  |exact zU (by omega)
  |exact ⟨by kernel_rfl,by omega,by omega⟩
  |exact ⟨by kernel_rfl,by omega,by omega,by omega⟩
  |exact (show Tryz.prog.underlying _=some TypeDesc.string by kernel_rfl)
  |skip
theorem one_text (h0:signB s[i]=false) (h46:s[i]≠46) (hl:letU s[i]=false) (hd:digU s[i]=false) (h45:s[i]≠45) (h34:s[i]=34) (n:Nat) (hn:litN (s.drop (i+1))=some n):AC EN5 Tryz.prog 37 [.c (.string (bs s)),.c (.int .i64 (i:Int))] (tupR ⟨4,(unquoteU (s[i]::(s.drop (i+1)).take n)).getD [],i⟩ (i+1+n) (uqE (unquoteU (s[i]::(s.drop (i+1)).take n)))):=by
 have hz:=zk s
 have hbt:=zAK hi
 have hdr:s.drop i=s[i]::s.drop (i+1):=List.drop_eq_getElem_cons hi
 have q : ∀ n:Nat,n<256->(zR (bs s) ((i:Int)).toNat==(n:Int))=(s[i]==UInt8.ofNat n):=fun n hn=>by rw [hbt];exact zBI _ n hn
 have hsg:=zAy s[i]
 have hlt:=zAL s[i]
 have hdg:=zAY s[i]
 rw [<- hbt] at hsg hlt hdg
 rw [h0] at hsg
 have f1:(zR (bs s) ((i:Int)).toNat==46)=false:=(q 46 (by omega)).trans (by simpa using h46)
 have g1:((zR (bs s) ((i:Int)).toNat==46)==true)=false:=by rw [f1];rfl
 rw [hl] at hlt
 have g2:(digU s[i]==false)=true:=by rw [hd];rfl
 have f3:(zR (bs s) ((i:Int)).toNat==45)=false:=(q 45 (by omega)).trans (by simpa using h45)
 have f4:(zR (bs s) ((i:Int)).toNat==34)=true:=(q 34 (by omega)).trans (by rw [h34];rfl)
 have hll:=zFR s i hi (by omega)
 have hln:=zE7 _ n hn
 rw [List.length_drop] at hln
 have hv:litV s i=((i+1+n:Nat):Int):=by unfold litV;rw [hn]
 rw [hv] at hll
 have f7:decide (((i+1+n:Nat):Int)<0)=false:=decide_eq_false (by omega)
 have hx:(bs s).extract ((i:Int)).toNat (((i+1+n:Nat):Int)).toNat=bs (s[i]::(s.drop (i+1)).take n):=by
  rw [Int.toNat_natCast,Int.toNat_natCast,zCi s (by omega) (by omega),hdr,show i+1+n-i=n+1 by omega,List.take_succ_cons]
 have hsz:((bs s).extract ((i:Int)).toNat (((i+1+n:Nat):Int)).toNat).size<=100000:=by rw [ByteArray.size_extract];omega
 have huq:=zIw _ hsz
 unfold uqVV at huq
 have htx:tx ((bs s).extract ((i:Int)).toNat (((i+1+n:Nat):Int)).toNat)=s[i]::(s.drop (i+1)).take n:=by rw [hx];exact zAH _
 rw [htx] at huq
 refine zP 115 Tryz.func37 rfl rfl rfl rfl ?_
 intro s0 w he
 repeat' (first
|apply zG
 . conv=>lhs;whnf
 . assumption
|apply zD
 . conv=>lhs;whnf
 . assumption
|refine zA ?_
|refine zB ?_
|refine zF ?_
|apply aw_1
 conv=>whnf
 refine ⟨?_,trivial⟩
|apply zT rfl rfl
 . conv=>lhs;whnf
 . conv=>lhs;whnf
 . first | exact bF1 ‹_› | exact bF2 ‹_›
|apply s_1
 conv=>whnf;arg 1;arg 4;arg 3;whnf
 refine ⟨?_,?_⟩
|apply zi rfl
 . conv=>lhs;whnf
 . conv=>lhs;whnf
 . first | exact hsg | exact hlt | exact hdg | exact hll | exact huq
|apply zI rfl rfl rfl
 . conv=>lhs;whnf
 . conv=>lhs;whnf;arg 1;whnf
 . conv=>lhs;whnf;arg 1;whnf
 . exact ⟨by kernel_rfl,by kernel_rfl⟩
 . rfl
|apply zC rfl
 . conv=>lhs;whnf
 . conv=>lhs;whnf
 . first | rfl | assumption
 . conv=>lhs;whnf;arg 2;whnf
|apply zW rfl
 . conv=>lhs;whnf
 . conv=>lhs;whnf
 . first | rfl | assumption
|refine zQ ?_
|refine zE ?_
|exact trivial)
 . exact ⟨_,_,_,rfl,rfl,rfl,rfl⟩
 all_goals first
  |exact zU (by omega)
  |exact ⟨by kernel_rfl,by omega,by omega⟩
  |exact ⟨by kernel_rfl,by omega,by omega,by omega⟩
  |exact (show Tryz.prog.underlying _=some TypeDesc.string by kernel_rfl)
  |skip
theorem one_nodA (h0:signB s[i]=false) (h:s[i]=46) (h3 : ¬ i+3<=s.length):AC EN5 Tryz.prog 37 [.c (.string (bs s)),.c (.int .i64 (i:Int))] failR:=by
 have hz:=zk s
 have hbt:=zAK hi
 have hdr:s.drop i=s[i]::s.drop (i+1):=List.drop_eq_getElem_cons hi
 have q : ∀ n:Nat,n<256->(zR (bs s) ((i:Int)).toNat==(n:Int))=(s[i]==UInt8.ofNat n):=fun n hn=>by rw [hbt];exact zBI _ n hn
 have hsg:=zAy s[i]
 have hlt:=zAL s[i]
 have hdg:=zAY s[i]
 rw [<- hbt] at hsg hlt hdg
 rw [h0] at hsg
 have f1:(zR (bs s) ((i:Int)).toNat==46)=true:=(q 46 (by omega)).trans (by rw [h];rfl)
 have g1:((zR (bs s) ((i:Int)).toNat==46)==true)=true:=by rw [f1];rfl
 have f2:decide ((i:Int)+3<=((bs s).size:Nat))=false:=decide_eq_false (by omega)
 have g2:(decide ((i:Int)+3<=((bs s).size:Nat))==true)=false:=by rw [f2];rfl
 rw [show letU s[i]=false by rw [h];rfl] at hlt
 have hd0:digU s[i]=false:=by rw [h];rfl
 have g4:(digU s[i]==false)=true:=by rw [hd0];rfl
 have f5:(zR (bs s) ((i:Int)).toNat==45)=false:=(q 45 (by omega)).trans (by rw [h];rfl)
 have f6:(zR (bs s) ((i:Int)).toNat==34)=false:=(q 34 (by omega)).trans (by rw [h];rfl)
 refine zP 115 Tryz.func37 rfl rfl rfl rfl ?_
 intro s0 w he
 repeat' (first
|apply zD
 . conv=>lhs;whnf
 . assumption
|refine zA ?_
|refine zB ?_
|refine zF ?_
|apply aw_1
 conv=>whnf
 refine ⟨?_,trivial⟩
|apply zX rfl rfl
 . conv=>lhs;whnf
 . conv=>lhs;whnf
 . first | exact bT1 ‹_› | exact bT2 ‹_›
|apply zT rfl rfl
 . conv=>lhs;whnf
 . conv=>lhs;whnf
 . first | exact bF1 ‹_› | exact bF2 ‹_›
|apply s_1
 conv=>whnf;arg 1;arg 4;arg 3;whnf
 refine ⟨?_,?_⟩
|apply zi rfl
 . conv=>lhs;whnf
 . conv=>lhs;whnf
 . first | exact hsg | exact hlt | exact hdg
|apply zI rfl rfl rfl
 . conv=>lhs;whnf
 . conv=>lhs;whnf;arg 1;whnf
 . conv=>lhs;whnf;arg 1;whnf
 . exact ⟨by kernel_rfl,by kernel_rfl⟩
 . rfl
|apply zC rfl
 . conv=>lhs;whnf
 . conv=>lhs;whnf
 . first | rfl | assumption
 . conv=>lhs;whnf;arg 2;whnf
|apply zW rfl
 . conv=>lhs;whnf
 . conv=>lhs;whnf
 . first | rfl | assumption
|refine zE ?_
|exact trivial)
 . exact ⟨_,_,_,rfl,rfl,rfl,rfl⟩
 all_goals first
  |exact zU (by omega)
  |exact ⟨by kernel_rfl,by omega,by omega⟩
  |exact ⟨by kernel_rfl,by omega,by omega,by omega⟩
  |exact (show Tryz.prog.underlying _=some TypeDesc.string by kernel_rfl)
  |skip
theorem one_nodB (h0:signB s[i]=false) (h:s[i]=46) (h3:i+3<=s.length) (hd:(s.drop (i+1)).take 2≠[46,46]):AC EN5 Tryz.prog 37 [.c (.string (bs s)),.c (.int .i64 (i:Int))] failR:=by
 have hz:=zk s
 have hbt:=zAK hi
 have hdr:s.drop i=s[i]::s.drop (i+1):=List.drop_eq_getElem_cons hi
 have q : ∀ n:Nat,n<256->(zR (bs s) ((i:Int)).toNat==(n:Int))=(s[i]==UInt8.ofNat n):=fun n hn=>by rw [hbt];exact zBI _ n hn
 have hsg:=zAy s[i]
 have hlt:=zAL s[i]
 have hdg:=zAY s[i]
 rw [<- hbt] at hsg hlt hdg
 rw [h0] at hsg
 have f1:(zR (bs s) ((i:Int)).toNat==46)=true:=(q 46 (by omega)).trans (by rw [h];rfl)
 have g1:((zR (bs s) ((i:Int)).toNat==46)==true)=true:=by rw [f1];rfl
 have f2:decide ((i:Int)+3<=((bs s).size:Nat))=true:=decide_eq_true (by omega)
 have g2:(decide ((i:Int)+3<=((bs s).size:Nat))==true)=true:=by rw [f2];rfl
 have hx:(bs s).extract ((i:Int)).toNat (((i:Int)+3)).toNat=bs (46::(s.drop (i+1)).take 2):=by
  rw [show (((i:Int)+3)).toNat=i+3 by omega,Int.toNat_natCast,zCi s (by omega) (by omega),hdr,Nat.add_sub_cancel_left,h,List.take_succ_cons]
 have f3:(((bs s).extract ((i:Int)).toNat (((i:Int)+3)).toNat).toList==({ data:=#[46,46,46] }:ByteArray).toList)=false:=by
  rw [hx,beq_eq_false_iff_ne]
  intro e
  rw [Lib.toList_data,Lib.toList_data,zAH] at e
  injection e with e1 e2
  exact hd e2
 rw [show letU s[i]=false by rw [h];rfl] at hlt
 have hd0:digU s[i]=false:=by rw [h];rfl
 have g4:(digU s[i]==false)=true:=by rw [hd0];rfl
 have f5:(zR (bs s) ((i:Int)).toNat==45)=false:=(q 45 (by omega)).trans (by rw [h];rfl)
 have f6:(zR (bs s) ((i:Int)).toNat==34)=false:=(q 34 (by omega)).trans (by rw [h];rfl)
 refine zP 115 Tryz.func37 rfl rfl rfl rfl ?_
 intro s0 w he
 repeat' (first
|apply zD
 . conv=>lhs;whnf
 . assumption
|refine zA ?_
|refine zB ?_
|refine zF ?_
|apply aw_1
 conv=>whnf
 refine ⟨?_,trivial⟩
|apply zX rfl rfl
 . conv=>lhs;whnf
 . conv=>lhs;whnf
 . first | exact bT1 ‹_› | exact bT2 ‹_›
|apply zT rfl rfl
 . conv=>lhs;whnf
 . conv=>lhs;whnf
 . first | exact bF1 ‹_› | exact bF2 ‹_›
|apply s_1
 conv=>whnf;arg 1;arg 4;arg 3;whnf
 refine ⟨?_,?_⟩
|apply zi rfl
 . conv=>lhs;whnf
 . conv=>lhs;whnf
 . first | exact hsg | exact hlt | exact hdg
|apply zI rfl rfl rfl
 . conv=>lhs;whnf
 . conv=>lhs;whnf;arg 1;whnf
 . conv=>lhs;whnf;arg 1;whnf
 . exact ⟨by kernel_rfl,by kernel_rfl⟩
 . rfl
|apply zC rfl
 . conv=>lhs;whnf
 . conv=>lhs;whnf
 . first | rfl | assumption
 . conv=>lhs;whnf;arg 2;whnf
|refine zE ?_
|exact trivial)
 . exact ⟨_,_,_,rfl,rfl,rfl,rfl⟩
 all_goals first
  |exact zU (by omega)
  |exact ⟨by kernel_rfl,by omega,by omega⟩
  |exact ⟨by kernel_rfl,by omega,by omega,by omega⟩
  |exact (show Tryz.prog.underlying _=some TypeDesc.string by kernel_rfl)
  |skip
theorem one_ac:AC EN5 Tryz.prog 37 [.c (.string (bs s)),.c (.int .i64 (i:Int))] (readV (s.drop i) i):=by
 have hdr:s.drop i=s[i]::s.drop (i+1):=List.drop_eq_getElem_cons hi
 have hlr:(s.drop (i+1)).length=s.length-(i+1):=List.length_drop ..
 rw [hdr]
 unfold readV
 dsimp only
 by_cases h0:signB s[i]=true
 . rw [if_pos h0];exact one_sign hi hs h0
 rw [if_neg h0]
 have h0:signB s[i]=false:=by simpa using h0
 by_cases h46:s[i]=46
 . rw [if_pos (by simp [h46])]
   by_cases hd:(s.drop (i+1)).take 2=[46,46]
   . rw [if_pos hd]
     have:=congrArg List.length hd
     rw [List.length_take] at this
     exact one_dots hi hs h0 h46 (by simp at this;omega) hd
   . rw [if_neg hd]
     by_cases h3:i+3<=s.length
     . exact one_nodB hi hs h0 h46 h3 hd
     . exact one_nodA hi hs h0 h46 h3
 rw [if_neg (by simpa using h46)]
 by_cases hd:digU s[i]=true
 . rw [if_pos (by rw [hd,Bool.or_true])]
   have hl:letU s[i]=false:=by
    cases hq:letU s[i] with
    |false=>rfl
    |true =>
     rw [let_iff] at hq
     rw [zBS] at hd
     omega
   exact one_dig hi hs h0 h46 hl hd
 have hd:digU s[i]=false:=by simpa using hd
 by_cases h45:s[i]=45
 . rw [if_pos (by simp [h45])]
   exact one_neg hi hs h0 h46 (by rw [h45];rfl) hd h45
 rw [if_neg (by rw [hd];simpa using h45)]
 have hwl:wrdU s[i]=letU s[i]:=by unfold wrdU;rw [hd,Bool.or_false]
 rw [hwl]
 by_cases hl:letU s[i]=true
 . rw [if_pos hl]
   by_cases hlen:spanN wrdU (s.drop (i+1))+1>64
   . rw [if_pos hlen];exact one_long hi hs h0 h46 hl (by omega)
   . rw [if_neg hlen];exact one_word hi hs h0 h46 hl (by omega)
 rw [if_neg hl]
 have hl:letU s[i]=false:=by simpa using hl
 by_cases h34:s[i]=34
 . rw [if_pos (by simp [h34])]
   cases hn:litN (s.drop (i+1)) with
   |none=>exact one_open hi hs h0 h46 hl hd h45 h34 hn
   |some n=>exact one_text hi hs h0 h46 hl hd h45 h34 n hn
 . rw [if_neg (by simpa using h34)]
   exact one_none hi hs h0 h46 hl hd h45 h34
end
end
section
open Go.RowKit
set_option linter.unusedSectionVars false
attribute [local irreducible] wpList Calls Code.wp AW AWo OpOk seqK zq zu loopK endK AC zf Yld Sub
attribute [local irreducible] ACB ACX ACE absLexG YldG absLexH
theorem zEZ:z8 Tryz.prog 33=some (70,32):=by kernel_rfl
noncomputable def scanX:Except (Nat × Int) (List Tok)->V
 |.ok ts => .tup [.sl 70 (ts.map tokD),.c (.int .i64 0),.c (.int .i64 0)]
 |.error x => .tup [.c (.slice none 0 0),.c (.int .i64 (x.1:Int)),.c (.int .i64 x.2)]
theorem zFv (r:Except (Nat × Int) (List Tok)):(scanX r).pure=true:=by cases r<;>rfl
noncomputable def HSx (s:List UInt8) (k:Nat) (acc:List Tok):Vst 44:=
 stS 44 [(0,.c (.string (bs s))),(5,.own 5 70 (acc.map tokD)),(6,.c (.int .i64 (k:Int)))] [(5,.tok 70 (acc.map tokD).length)]
theorem scanF_big (s:List UInt8) (hs:65536<s.length):AC EN5 Tryz.prog 16 [.c (.string (bs s))] (scanX (zAp s)):=by
 have hz:=zk s
 have e:zAp s = .error (65536,4):=by unfold zAp;rw [if_pos hs]
 have f0:decide (((bs s).size:Int)>65536)=true:=decide_eq_true (by omega)
 rw [e]
 refine zP 44 Tryz.func16 rfl rfl rfl (zFv _) ?_
 intro s0 w he
 repeat' (first
|apply zG
 . conv=>lhs;whnf
 . assumption
|refine zA ?_
|refine zB ?_
|refine zF ?_
|apply aw_1
 conv=>whnf
 refine ⟨?_,trivial⟩
|apply s_1
 conv=>whnf;arg 1;arg 4;arg 3;whnf
 refine ⟨?_,?_⟩
|refine zQ ?_
|refine zE ?_
|exact trivial)
 . exact ⟨_,_,_,rfl,rfl,rfl,rfl⟩
 all_goals exact (show Tryz.prog.underlying _=some TypeDesc.string by kernel_rfl)
theorem zJ5 (s:List UInt8):AC EN5 Tryz.prog 16 [.c (.string (bs s))] (scanX (zAp s)):=by
 by_cases hbig:65536<s.length
 . exact scanF_big s hbig
 have hz:=zk s
 have f0:decide (((bs s).size:Int)>65536)=false:=decide_eq_false (by omega)
 have hsk0:=zJx s 0 (by omega) (by omega)
 rw [Nat.zero_add,List.drop_zero] at hsk0
 have hkl:=zAo false s
 have e0:zAp s=zIs [] (scanG s.length (s.drop (skipM false s)) (skipM false s)):=by
  unfold zAp
  rw [if_neg hbig,zJ4,Nat.zero_add]
  cases scanG s.length (s.drop (skipM false s)) (skipM false s)<;>rfl
 refine zP 44 Tryz.func16 rfl rfl rfl (zFv _) ?_
 intro s0 w he
 repeat' (first
|apply zD
 . conv=>lhs;whnf
 . assumption
|refine zA ?_
|refine zB ?_
|refine zF ?_
|apply aw_1
 conv=>whnf
 refine ⟨?_,trivial⟩
|apply s_1
 conv=>whnf;arg 1;arg 4;arg 3;whnf
 refine ⟨?_,?_⟩
|apply zi rfl
 . conv=>lhs;whnf
 . conv=>lhs;whnf
 . first | exact hsk0
|exact trivial)
 refine zg (Sub.own (t:=5) (e:=70) rfl rfl) ?_
 refine zn (fun j st => ∃ k acc f,k+j=s.length/\acc.length<=k/\s.length<f+k+1/\zAp s=zIs acc (scanG f (s.drop k) k)/\Sub (cx EN5 Tryz.prog s0 w he) st (HSx s k acc)) (s.length-skipM false s) ⟨skipM false s,[],s.length,by omega,by simp,by omega,e0,?_⟩ ?_
 . exact Sub.live ⟨rfl,rfl,rfl,trivial⟩ ⟨rfl,trivial⟩
 rintro j st ⟨k,acc,f,hkj,hacc,hf,hI,hs2⟩
 refine zg hs2 ?_
 clear hs2 hsk0
 rw [hI]
 clear hI e0
 by_cases hk:k<s.length
 . have f1:decide ((k:Int)<((bs s).size:Nat))=true:=decide_eq_true (by omega)
   have hrd:=one_ac hk (by omega)
   have hdr:s.drop k=s[k]::s.drop (k+1):=List.drop_eq_getElem_cons hk
   obtain ⟨r1,r2⟩:=zKC s[k] (s.drop (k+1)) k
   rw [hdr] at hrd |-
   cases hr:readU (s[k]::s.drop (k+1)) with
   |error e =>
    obtain ⟨he0,t',k',ht⟩:=r2 e hr
    rw [ht] at hrd
    unfold tupR at hrd
    have hrt:zDA (s[k]::s.drop (k+1)) k = .error e:=by unfold zDA;rw [hr]
    have eG:scanG f (s[k]::s.drop (k+1)) k = .error (k,e):=by unfold scanG;simp only [hrt]
    rw [eG]
    have f2:(e != 0)=true:=by simpa using he0
    repeat' (first
|apply zG
 . conv=>lhs;whnf
 . assumption
|refine zA ?_
|refine zB ?_
|refine zF ?_
|apply aw_1
 conv=>whnf
 refine ⟨?_,trivial⟩
|apply s_1
 conv=>whnf;arg 1;arg 4;arg 3;whnf
 refine ⟨?_,?_⟩
|apply zi rfl
 . conv=>lhs;whnf
 . conv=>lhs;whnf
 . first | exact hrd
|apply zI rfl rfl rfl
 . conv=>lhs;whnf
 . conv=>lhs;whnf;arg 1;whnf
 . conv=>lhs;whnf;arg 1;whnf
 . exact ⟨by kernel_rfl,by kernel_rfl⟩
 . rfl
|refine zQ ?_
|refine zV ?_
|refine zw ?_
|refine zE ?_
|exact trivial)
    . exact ⟨_,_,_,rfl,rfl,rfl,rfl⟩
    all_goals exact (show Tryz.prog.underlying _=some TypeDesc.string by kernel_rfl)
   |ok p =>
    obtain ⟨kk,t,n⟩:=p
    have hn:=zCF hr
    have hdl:(s[k]::s.drop (k+1)).length=s.length-k:=by rw [<- hdr,List.length_drop]
    rw [hdl] at hn
    rw [r1 kk t n hr] at hrd
    unfold tupR at hrd
    have hsk:=zJx s (k+n) (by omega) (by omega)
    have hsl:=zAo false (s.drop (k+n))
    rw [List.length_drop] at hsl
    have hrt:zDA (s[k]::s.drop (k+1)) k = .ok (⟨kk,t,k⟩,n):=by unfold zDA;rw [hr]
    obtain ⟨f',rfl⟩ : ∃ f',f=f'+1:=⟨f-1,by omega⟩
    have hdn:(s[k]::s.drop (k+1)).drop n=s.drop (k+n):=by rw [<- hdr,List.drop_drop]
    have eG:zIs acc (scanG (f'+1) (s[k]::s.drop (k+1)) k)=zIs (acc++[⟨kk,t,k⟩]) (scanG f' (s.drop (k+n+skipM false (s.drop (k+n)))) (k+n+skipM false (s.drop (k+n)))):=by
     conv=>lhs;unfold scanG
     simp only [hrt,hdn]
     rw [zJ4,List.drop_drop]
     cases scanG f' (s.drop (k+n+skipM false (s.drop (k+n)))) (k+n+skipM false (s.drop (k+n))) with
     |error x=>rfl
     |ok ts=>show Except.ok (acc++_::ts)=Except.ok ((acc++[_])++ts);rw [List.append_assoc];rfl
    rw [eG]
    repeat' (first
|apply zBW [tokD ⟨kk,t,k⟩] rfl rfl
 . conv=>lhs;whnf
 . first | exact zEZ | (conv=>lhs;whnf;arg 1;whnf)
 . rfl
 . rfl
 . repeat' (first | exact trivial | apply And.intro | rfl)
|apply zG
 . conv=>lhs;whnf
 . assumption
|refine zA ?_
|refine zB ?_
|refine zF ?_
|refine zZ ?_
|apply aw_1
 conv=>whnf
 refine ⟨?_,trivial⟩
|apply s_1
 conv=>whnf;arg 1;arg 4;arg 3;whnf
 refine ⟨?_,?_⟩
|apply zi rfl
 . conv=>lhs;whnf
 . conv=>lhs;whnf
 . first | exact hrd | exact hsk
|apply zI rfl rfl rfl
 . conv=>lhs;whnf
 . conv=>lhs;whnf;arg 1;whnf
 . conv=>lhs;whnf;arg 1;whnf
 . exact ⟨by kernel_rfl,by kernel_rfl⟩
 . rfl
|apply zBK rfl rfl
 . conv=>lhs;whnf
 . first | exact zEZ | (conv=>lhs;whnf;arg 1;whnf)
 . first | exact fun _=>rfl | (intro _;kernel_rfl)
 . conv=>lhs;whnf
 . conv=>lhs;whnf;arg 1;whnf
 . conv=>lhs;whnf
|exact trivial)
    . refine zJ (j':=j-(n+skipM false (s.drop (k+n)))) (by omega) ⟨k+n+skipM false (s.drop (k+n)),acc++[⟨kk,t,k⟩],f',by omega,by rw [List.length_append];simp only [List.length_cons,List.length_nil];omega,by omega,rfl,Sub.live ⟨rfl,?_,rfl,trivial⟩ ⟨?_,trivial⟩⟩
      . show V.own 5 _ (acc.map tokD++[tokD ⟨kk,t,k⟩])=V.own 5 _ ((acc++[(⟨kk,t,k⟩:Tok)]).map tokD)
        rw [List.map_append];rfl
      . show some (Res.tok _ ((acc.map tokD).length+1))=some (Res.tok _ ((acc++[(⟨kk,t,k⟩:Tok)]).map tokD).length)
        simp
    . refine ⟨by simp,?_,?_⟩<;>simp only [List.length_cons,List.length_nil,List.length_map,maxLen]<;>omega
    . exact (show Tryz.prog.underlying _=some TypeDesc.string by kernel_rfl)
 . have f1:decide ((k:Int)<((bs s).size:Nat))=false:=decide_eq_false (by omega)
   have hdr:s.drop k=[]:=List.drop_of_length_le (by omega)
   rw [hdr]
   have ek:k=s.length:=by omega
   repeat' (first
|apply zBW [tokD ⟨5,[],(bs s).size⟩] rfl rfl
 . conv=>lhs;whnf
 . first | exact zEZ | (conv=>lhs;whnf;arg 1;whnf)
 . rfl
 . rfl
 . repeat' (first | exact trivial | apply And.intro | rfl)
|apply zD
 . conv=>lhs;whnf
 . assumption
|refine zA ?_
|refine zB ?_
|refine zF ?_
|apply aw_1
 conv=>whnf
 refine ⟨?_,trivial⟩
|apply s_1
 conv=>whnf;arg 1;arg 4;arg 3;whnf
 refine ⟨?_,?_⟩
|apply zBK rfl rfl
 . conv=>lhs;whnf
 . first | exact zEZ | (conv=>lhs;whnf;arg 1;whnf)
 . first | exact fun _=>rfl | (intro _;kernel_rfl)
 . conv=>lhs;whnf
 . conv=>lhs;whnf;arg 1;whnf
 . conv=>lhs;whnf
|refine zO ?_
|refine zL rfl ?_
|refine zM ?_
|refine zE ?_
|exact trivial)
   . refine ⟨_,_,_,rfl,rfl,rfl,?_⟩
     show V.tup [.sl 70 ((acc++[(⟨5,[],k⟩:Tok)]).map tokD),.c (.int .i64 0),.c (.int .i64 0)]=V.tup [.sl 70 (acc.map tokD++[tokD ⟨5,[],(bs s).size⟩]),.c (.int .i64 0),.c (.int .i64 0)]
     rw [ek,hz,List.map_append];rfl
   . refine ⟨by simp,?_,?_⟩<;>simp only [List.length_cons,List.length_nil,List.length_map,maxLen]<;>omega
   all_goals exact (show Tryz.prog.underlying _=some TypeDesc.string by kernel_rfl)
 exact (show Tryz.prog.underlying _=some TypeDesc.string by kernel_rfl)
end
end Go.Proofs.YthppafnlnnpciaaGreatDoor
