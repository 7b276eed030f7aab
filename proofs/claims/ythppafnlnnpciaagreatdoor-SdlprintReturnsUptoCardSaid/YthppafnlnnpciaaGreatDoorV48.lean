import Derived.Test.YthppafnlnnpciaaGreatDoorV47
set_option maxHeartbeats 8000000
set_option maxRecDepth 100000
set_option linter.unusedVariables false
set_option linter.unusedSimpArgs false
namespace Go.Proofs.YthppafnlnnpciaaGreatDoor
section
open Go.RowKit
theorem acx_dead {e:Ge} {P:Program} {f:FuncId} {args:List V} {t:TypeId} {pv:Value}:ACX e P f args [.box t [.c (.tuple #[])]] pv:=fun pas s w us _ hm _ _=>by
 obtain ⟨b,cs,-,-,h2,-⟩:=hm.ho (pn 0) (.box t [.c (.tuple #[])]) rfl
 cases hc:cs.toList with
 |nil=>rw [hc] at h2;simp [relL] at h2
 |cons x r =>
  rw [hc,relL,rel] at h2
  exact h2.1.2.elim
section
variable {X:Cx} {nn:Nat} {st:Vst nn} {o:Oper} {ops:Array Oper} {l:List Oper} {d:Option Tmp} {Q:Vst nn->Prop} {rd wr:Nat->List Nat} {k:Nat}
theorem g_dead {f:FuncId} {vs:List V} {m:Nat} {t:TypeId} (dv:V) (pv:Value) (hg:o.guard=none) (hd:o.dst=d) (h:act1 X.P st.rs (ev st) o.op = .call f vs) (hv:vs=[.bx m 0]) (hr:st.rs m=some (.box t [.c (.tuple #[])])) (hl:[m].all (fun n=>(wr k).contains n)=true)
 (hpk : ∀ tm rs,X.pk pv tm rs) (hK:absLexG X ops rd wr Q (k+1) l ((st.res m (.box t [.c (.tuple #[])])).put d dv)):absLexG X ops rd wr Q k (o::l) st:=by
 subst hv
 refine zJR [m] dv [.box t [.c (.tuple #[])]] hg hd h (acx_dead (args:=renL (φin [m]) [.bx m 0]) (t:=t)) (by simp) rfl (by simp only [List.map_cons,List.map_nil,hr,Option.map_some];rfl) rfl hl hpk ?_
 rw [zB0]
 exact hK
end
section
variable {x y z:PS} {n:List UInt8} {e:Nat × Int} {l:List D}
theorem mb_1 (h1:nameQ x = .error e):mbQ x = .error e:=by rw [mbQ,zw h1]
theorem mb_2 (h1:nameQ x = .ok (n,y)) (h2:dirsQ y = .error e):mbQ x = .error e:=by rw [mbQ,zX h1,zw h2]
theorem mb_3 (h1:nameQ x = .ok (n,y)) (h2:dirsQ y = .ok (l,z)):mbQ x = .ok (sMbD n l,z):=by rw [mbQ,zX h1,zX h2]
theorem mnK_ok {r:PR (List D)} {a:Unit} {p:List D × PS} (h:mnK r = .ok (a,p)):r = .ok p:=by
 cases r with
 |error e=>cases h
 |ok q=>obtain ⟨l,y⟩:=q;unfold mnK at h;cases h;rfl
theorem mnK_er {r:PR (List D)} {e:Nat × Int} (h:mnK r = .error e):r = .error e:=by
 cases r with
 |error e=>unfold mnK at h;cases h;rfl
 |ok q=>obtain ⟨l,y⟩:=q;cases h
theorem inq_no {x:PS} (h:(hdT x).k≠2):inQ x = .error ((hdT x).i,3):=by rw [inQ,nameQ,if_neg h];rfl
theorem fdq_no {x:PS} (h:(hdT x).k≠2):fdQ x = .error ((hdT x).i,3):=by rw [fdQ,nameQ,if_neg h];rfl
theorem mbq_no {x:PS} (h:(hdT x).k≠2):mbQ x = .error ((hdT x).i,3):=by rw [mbQ,nameQ,if_neg h];rfl
end
attribute [local irreducible] wpList Calls Code.wp AW AWo OpOk seqK zz z8 loopK endK AC zl Yld Sub
attribute [local irreducible] ACB ACX ACE absLexG YldG YldU
theorem elemIn:zAD Tryz.prog 43=some (55,168):=by kernel_rfl
theorem elemFd:zAD Tryz.prog 41=some (50,104):=by kernel_rfl
theorem zFd:zAD Tryz.prog 42=some (79,40):=by kernel_rfl
theorem ent_i:zB6 Tryz.prog 177=true:=by kernel_rfl
def Bi (acc:List D):Res:=.box 43 [.own (pn 3) 55 acc]
def Ti (acc:List D):Res:=.tok 55 acc.length
theorem ren_i:RenK [.bx (pn 1) 0,.bx (pn 0) 0] Bi Ti:=⟨rfl,fun _=>rfl,fun _=>rfl,fun _=>rfl,fun _=>rfl⟩
section
variable {al:List Tok} (hal:al.length<=100000) (hkd:Kd al)
include hal hkd
theorem p_in:CK al Bi Ti 177 [.bx (pn 1) 0,.bx (pn 0) 0] inQ:=by
 intro acc x h hacc
 have hin:=p_input hal hkd h
 refine zo (fn:=Tryz.f177) 7 Tryz.func177 rfl rfl ?_
 intro pas w0 w he hp
 repeat' (first
|apply zBs 6 ([(0,[1000001]),(1,[1000000])]) ([(2,[1000002]),(4,[1000003]),(5,[1000001])]) rfl (by kernel_rfl) (by kernel_rfl) (by kernel_rfl)
|apply zHK
|apply zHJ rfl
 . conv=>lhs;whnf
 . conv=>lhs;whnf;arg 2;whnf
|apply zIO rfl rfl
 . conv=>lhs;whnf
 . first | exact elemIn | (conv=>lhs;whnf;arg 1;whnf)
 . first | exact fun _=>rfl | (intro _;kernel_rfl)
 . conv=>lhs;whnf
 . rfl
 . conv=>lhs;whnf;arg 1;whnf
 . conv=>lhs;whnf
|apply zCQ rfl rfl rfl
 . conv=>lhs;whnf
 . rfl
 . conv=>lhs;whnf;arg 1;whnf
 . conv=>lhs;whnf;arg 1;whnf
 . exact ⟨by kernel_rfl,by kernel_rfl⟩
 . rfl
|exact Or.inl ⟨pn 2,_,rfl⟩
|refine Or.inr ?_
|apply g_pr (clS al) (zP al) (default:D) rfl
 . conv=>lhs;whnf
 . conv=>lhs;whnf
 . rfl
 . conv=>lhs;whnf;arg 1;whnf
 . first | exact zu _ _
 . first | exact hin
 . exact fun _=>rfl
 . first | (intro _ _;simp only [renL,renV,ren_cells];done) | exact fun _ _=>rfl
 . rfl
 refine fun ee hq tm rs => ?_
 change _=Out.die _
 rotate_left 1
 refine fun aa xx hq => ?_
 first | (cases hq;have hq:=True.intro) | skip
 rotate_left 1
 refine fun ee hq => ?_
 first | (cases hq;done) | skip
|show inO _ _=true;rfl
|apply zDx [aa] rfl rfl
 . conv=>lhs;whnf
 . first | exact elemIn | (conv=>lhs;whnf;arg 1;whnf)
 . rfl
 . rfl
 . repeat' (first | exact trivial | apply And.intro | rfl)
|apply zDx [default] rfl rfl
 . conv=>lhs;whnf
 . first | exact elemIn | (conv=>lhs;whnf;arg 1;whnf)
 . rfl
 . rfl
 . repeat' (first | exact trivial | apply And.intro | rfl)
|apply zCu rfl
|exact trivial)
 all_goals first
  |(refine ⟨by simp,?_,?_⟩<;>simp only [List.length_cons,List.length_nil,maxLen]<;>omega)
  |(rw [zDa hq];rfl)
  |skip
 refine ⟨bsK al Bi Ti (acc++[aa]) xx,by rw [zKi hq];rfl,rfl,rfl,rfl,?_,trivial⟩
 show some (Res.tok _ (acc.length+1))=some (Res.tok _ (acc++[aa]).length)
 rw [List.length_append];rfl
noncomputable def HiN (al:List Tok) (x:PS) (e:List UInt8):Vst 11:=
 stS 11 [(1,.c (.string (bs e))),(2,.bx 2 0),(5,.bx 5 0)] [(pn 0,boxS al x),(2,.box 62 [.bx (pn 0) 0]),(5,.box 43 [.own 905 55 []]),(905,.tok 55 0)]
theorem zJ4 (e:List UInt8) {x:PS} (h:Sx al x):ACE EN5 Tryz.prog 120 [.bx (pn 0) 0,.c (.string (bs e))] [boxS al x] (outS al (fun l => .sl 55 l) (insQ e x)):=by
 have hbk:=zG3 hal ent_i ren_i (p_in hal hkd) (fun x h=>inq_no h) (fun h hq=>h.inp hq) e 16 (x.ts.length+1) h (by omega)
 have e0:insQ e x=manyF inQ e 16 (x.ts.length+1) [] x:=rfl
 rw [e0]
 refine zo (fn:=Tryz.f120) 11 Tryz.func120 rfl rfl ?_
 intro pas w0 w he hp
 repeat' (first
|apply zGu [2,5,pn 0,905] rfl
 . conv=>lhs;whnf
 . conv=>lhs;whnf
 . first | exact hbk
 . decide
 . rfl
 . rfl
 refine fun ee hq => ?_
 change _=Out.die _
 rotate_left 1
 refine fun aa xx hq => ?_
 first | (cases hq;have hq:=True.intro) | skip
|apply z7 2 (HiN al x e) rfl
|refine zCB ?_
|refine zA ?_
|refine zB ?_
|refine zH ?_
|apply aw_1
 conv=>whnf
 refine ⟨?_,trivial⟩
|apply s_1
 conv=>whnf;arg 1;arg 4;arg 3;whnf
 refine ⟨?_,?_⟩
|apply zAL rfl rfl rfl rfl
 . conv=>lhs;whnf;arg 1;whnf
 . rfl
|apply zAb rfl
 . conv=>lhs;whnf;arg 2;whnf
 . conv=>lhs;whnf;arg 1;whnf
|exact trivial)
 . exact (Sub.ownF (m:=5) (q:=905) (i:=0) (e:=55) rfl (by decide) rfl rfl rfl).trans (Sub.live ⟨rfl,rfl,rfl,trivial⟩ ⟨rfl,rfl,rfl,rfl,trivial⟩)
 . obtain ⟨l,y⟩:=xx
   rw [mnK_ok hq];rfl
 . rw [mnK_er hq];rfl
theorem p_field {x:PS} (h:Sx al x):ACE EN5 Tryz.prog 124 [.bx (pn 0) 0] [boxS al x] (outS al VFd (fdQ x)):=by
 have hnm:=zDp h hal
 rcases hN:nameQ x with e1 | ⟨n,y⟩
 . rw [fi_1 hN]
   rw [hN] at hnm
   refine zo (fn:=Tryz.f124) 21 Tryz.func124 rfl rfl ?_
   intro pas w0 w he hp
   repeat' (first
|apply s_pr (clS al) (zP al) rfl
 . conv=>lhs;whnf
 . conv=>lhs;whnf
 . rfl
 . conv=>lhs;whnf;arg 1;whnf
 . first | exact zu _ _
 . first | exact hnm
 . exact fun _=>rfl
 . first | (intro _ _;simp only [renL,renV,ren_cells];done) | exact fun _ _=>rfl
 refine fun ee hq => ?_
 change _=Out.die _
 rotate_left 1
 refine fun aa xx hq => ?_
 first | (replace hq:=zAM hq;obtain ⟨hq,rfl⟩:=hq) | (cases hq;have hq:=True.intro) | skip
|refine zA ?_
|refine zB ?_
|refine zH ?_
|apply aw_1
 conv=>whnf
 refine ⟨?_,trivial⟩
|apply s_1
 conv=>whnf;arg 1;arg 4;arg 3;whnf
 refine ⟨?_,?_⟩
|exact trivial)
   all_goals first
    |exact zA3 ‹_›
    |(cases hq;done)
 have hN1:=(h.name hN).1
 rw [hN] at hnm
 have hac:ACB EN5 Tryz.prog 173 [.bx (pn 0) 0,.c (.string (bs [40]))] [boxS al y] (.c (.bool (isS y [40]))) [boxS al (pqX y)]:=p_acc hN1 hal [40]
 have hin:=zJ4 hal hkd [41] hN1.pqX.1
 by_cases hp4:isS y [40]=true
 . rcases hM:insQ [41] (pqX y) with e1 | ⟨l,z⟩
   . rw [fi_2 hN hp4 hM]
     rw [hp4] at hac
     rw [hM] at hin
     refine zo (fn:=Tryz.f124) 21 Tryz.func124 rfl rfl ?_
     intro pas w0 w he hp
     repeat' (first
|apply s_m (clS al) (zP al) rfl
 . conv=>lhs;whnf
 . conv=>lhs;whnf
 . rfl
 . conv=>lhs;whnf;arg 1;whnf
 . first | exact zu _ _
 . first | exact hac
 . exact fun _=>rfl
 . exact fun _=>rfl
|apply s_pr (clS al) (zP al) rfl
 . conv=>lhs;whnf
 . conv=>lhs;whnf
 . rfl
 . conv=>lhs;whnf;arg 1;whnf
 . first | exact zu _ _
 . first | exact hnm | exact hin
 . exact fun _=>rfl
 . first | (intro _ _;simp only [renL,renV,ren_cells];done) | exact fun _ _=>rfl
 refine fun ee hq => ?_
 change _=Out.die _
 rotate_left 1
 refine fun aa xx hq => ?_
 first | (replace hq:=zAM hq;obtain ⟨hq,rfl⟩:=hq) | (cases hq;have hq:=True.intro) | skip
|refine zA ?_
|refine zB ?_
|refine zH ?_
|apply aw_1
 conv=>whnf
 refine ⟨?_,trivial⟩
|apply s_1
 conv=>whnf;arg 1;arg 4;arg 3;whnf
 refine ⟨?_,?_⟩
|apply zS rfl rfl rfl
 . conv=>lhs;whnf
 . conv=>lhs;whnf;arg 1;whnf
 . conv=>lhs;whnf;arg 1;whnf
 . exact ⟨by kernel_rfl,by kernel_rfl⟩
 . rfl
|exact trivial)
     all_goals first
      |exact zA3 ‹_›
      |(cases hq;done)
      |skip
   have hz:=(hN1.pqX.1.ins hM).1
   rw [fi_3 hN hp4 hM]
   rw [hp4] at hac
   rw [hM] at hin
   have hex:=zBL hz hal [58]
   have hty : ∀ {u v},takeQ [58] z = .ok (u,v)->ACE EN5 Tryz.prog 179 [.bx (pn 0) 0] [boxS al v] (outS al (fun d => .agg (cellsV Tryz.prog 12 48 d)) (typQ v)):=fun h1=>p_ref (hz.take h1).1 hal
   have hdi : ∀ {u v t o},takeQ [58] z = .ok (u,v)->typQ v = .ok (t,o)->ACE EN5 Tryz.prog 118 [.bx (pn 0) 0] [boxS al o] (outS al (fun l => .sl 108 l) (dirsQ o)):=fun h1 h2=>zGE hal hkd ((hz.take h1).1.typ h2).1
   refine zo (fn:=Tryz.f124) 21 Tryz.func124 rfl rfl ?_
   intro pas w0 w he hp
   repeat' (first
|apply s_m (clS al) (zP al) rfl
 . conv=>lhs;whnf
 . conv=>lhs;whnf
 . rfl
 . conv=>lhs;whnf;arg 1;whnf
 . first | exact zu _ _
 . first | exact hac
 . exact fun _=>rfl
 . exact fun _=>rfl
|apply zAx (VFd (sFdD _ _ _ _)) rfl rfl
 . conv=>lhs;whnf;arg 2;whnf
 . repeat' (first | exact VLe.refl _ | exact VLe.nil _ | exact VLe.lit _ _ | exact VLe.own _ _ _ | apply VLe.agg | apply VLeL.cons | exact VLeL.nil)
|apply s_pr (clS al) (zP al) rfl
 . conv=>lhs;whnf
 . conv=>lhs;whnf
 . rfl
 . conv=>lhs;whnf;arg 1;whnf
 . first | exact zu _ _
 . first | exact hnm | exact hin | exact hex | exact hty ‹_› | exact hdi ‹_› ‹_›
 . exact fun _=>rfl
 . first | (intro _ _;simp only [renL,renV,ren_cells];done) | exact fun _ _=>rfl
 refine fun ee hq => ?_
 change _=Out.die _
 rotate_left 1
 refine fun aa xx hq => ?_
 first | (replace hq:=zAM hq;obtain ⟨hq,rfl⟩:=hq) | (cases hq;have hq:=True.intro) | skip
|refine zA ?_
|refine zB ?_
|refine zH ?_
|apply aw_1
 conv=>whnf
 refine ⟨?_,trivial⟩
|apply s_1
 conv=>whnf;arg 1;arg 4;arg 3;whnf
 refine ⟨?_,?_⟩
|apply zS rfl rfl rfl
 . conv=>lhs;whnf
 . conv=>lhs;whnf;arg 1;whnf
 . conv=>lhs;whnf;arg 1;whnf
 . exact ⟨by kernel_rfl,by kernel_rfl⟩
 . rfl
|apply zAb rfl
 . conv=>lhs;whnf;arg 2;whnf
 . conv=>lhs;whnf;arg 1;whnf
|exact trivial)
   all_goals first
    |(cases hq;done)
    |(rw [ft_1 ‹_›];rfl)
    |(rw [ft_2 ‹_› ‹_›];rfl)
    |(rw [ft_3 ‹_› ‹_› ‹_›];rfl)
    |(rw [ft_4 ‹_› ‹_› ‹_›];rfl)
    |skip
 have hp4:isS y [40]=false:=by simpa using hp4
 rw [fi_4 hN hp4]
 rw [hp4] at hac
 have hz:=hN1.pqX.1
 obtain ⟨z,hze⟩ : ∃ z,z=pqX y:=⟨_,rfl⟩
 have hac:ACB EN5 Tryz.prog 173 [.bx (pn 0) 0,.c (.string (bs [40]))] [boxS al y] (.c (.bool false)) [boxS al z]:=by rw [hze];exact hac
 rw [<- hze] at hz
 rw [<- hze]
 have hex:=zBL hz hal [58]
 have hty : ∀ {u v},takeQ [58] z = .ok (u,v)->ACE EN5 Tryz.prog 179 [.bx (pn 0) 0] [boxS al v] (outS al (fun d => .agg (cellsV Tryz.prog 12 48 d)) (typQ v)):=fun h1=>p_ref (hz.take h1).1 hal
 have hdi : ∀ {u v t o},takeQ [58] z = .ok (u,v)->typQ v = .ok (t,o)->ACE EN5 Tryz.prog 118 [.bx (pn 0) 0] [boxS al o] (outS al (fun l => .sl 108 l) (dirsQ o)):=fun h1 h2=>zGE hal hkd ((hz.take h1).1.typ h2).1
 refine zo (fn:=Tryz.f124) 21 Tryz.func124 rfl rfl ?_
 intro pas w0 w he hp
 repeat' (first
|apply s_m (clS al) (zP al) rfl
 . conv=>lhs;whnf
 . conv=>lhs;whnf
 . rfl
 . conv=>lhs;whnf;arg 1;whnf
 . first | exact zu _ _
 . first | exact hac
 . exact fun _=>rfl
 . exact fun _=>rfl
|apply zAx (VFd (sFdD _ [] _ _)) rfl rfl
 . conv=>lhs;whnf;arg 2;whnf
 . repeat' (first | exact VLe.refl _ | exact VLe.nil _ | exact VLe.lit _ _ | exact VLe.own _ _ _ | apply VLe.agg | apply VLeL.cons | exact VLeL.nil)
|apply s_pr (clS al) (zP al) rfl
 . conv=>lhs;whnf
 . conv=>lhs;whnf
 . rfl
 . conv=>lhs;whnf;arg 1;whnf
 . first | exact zu _ _
 . first | exact hnm | exact hex | exact hty ‹_› | exact hdi ‹_› ‹_›
 . exact fun _=>rfl
 . first | (intro _ _;simp only [renL,renV,ren_cells];done) | exact fun _ _=>rfl
 refine fun ee hq => ?_
 change _=Out.die _
 rotate_left 1
 refine fun aa xx hq => ?_
 first | (replace hq:=zAM hq;obtain ⟨hq,rfl⟩:=hq) | (cases hq;have hq:=True.intro) | skip
|refine zA ?_
|refine zB ?_
|refine zH ?_
|apply aw_1
 conv=>whnf
 refine ⟨?_,trivial⟩
|apply s_1
 conv=>whnf;arg 1;arg 4;arg 3;whnf
 refine ⟨?_,?_⟩
|apply zS rfl rfl rfl
 . conv=>lhs;whnf
 . conv=>lhs;whnf;arg 1;whnf
 . conv=>lhs;whnf;arg 1;whnf
 . exact ⟨by kernel_rfl,by kernel_rfl⟩
 . rfl
|apply zAb rfl
 . conv=>lhs;whnf;arg 2;whnf
 . conv=>lhs;whnf;arg 1;whnf
|exact trivial)
 all_goals first
  |(cases hq;done)
  |(rw [ft_1 ‹_›];rfl)
  |(rw [ft_2 ‹_› ‹_›];rfl)
  |(rw [ft_3 ‹_› ‹_› ‹_›];rfl)
  |(rw [ft_4 ‹_› ‹_› ‹_›];rfl)
  |skip
end
end
section
open Go.RowKit
attribute [local irreducible] wpList Calls Code.wp AW AWo OpOk seqK zz z8 loopK endK AC zl Yld Sub
attribute [local irreducible] ACB ACX ACE absLexG YldG YldU
theorem ent_1:zB6 Tryz.prog 122=true:=by kernel_rfl
theorem ent_2:zB6 Tryz.prog 123=true:=by kernel_rfl
def Bm (k:Int) (n:List UInt8) (im ds:List D) (acc:List D):Res:=.box 45 [.c (.int .i64 k),.c (.string (bs n)),.sl 9 im,.sl 108 ds,.c (.slice none 0 0),.own (pn 3) 79 acc,.c (.slice none 0 0)]
def Tm (acc:List D):Res:=.tok 79 acc.length
theorem ren_m (k:Int) (n:List UInt8) (im ds:List D):RenK [.bx (pn 1) 0,.bx (pn 0) 0] (Bm k n im ds) Tm:=⟨rfl,fun _=>rfl,fun _=>rfl,fun _=>rfl,fun _=>rfl⟩
def Bf (k:Int) (n:List UInt8) (im ds:List D) (acc:List D):Res:=.box 45 [.c (.int .i64 k),.c (.string (bs n)),.sl 9 im,.sl 108 ds,.own (pn 3) 50 acc,.c (.slice none 0 0),.c (.slice none 0 0)]
def Tf (acc:List D):Res:=.tok 50 acc.length
theorem ren_f (k:Int) (n:List UInt8) (im ds:List D):RenK [.bx (pn 1) 0,.bx (pn 0) 0] (Bf k n im ds) Tf:=⟨rfl,fun _=>rfl,fun _=>rfl,fun _=>rfl,fun _=>rfl⟩
section
variable {al:List Tok} (hal:al.length<=100000) (hkd:Kd al)
include hal hkd
theorem p_fd (k:Int) (n:List UInt8) (im ds:List D):CK al (Bf k n im ds) Tf 123 [.bx (pn 1) 0,.bx (pn 0) 0] fdQ:=by
 intro acc x h hacc
 have hin:=p_field hal hkd h
 refine zo (fn:=Tryz.f123) 9 Tryz.func123 rfl rfl ?_
 intro pas w0 w he hp
 repeat' (first
|apply zBs 8 ([(1,[1000001]),(2,[1000000])]) ([(3,[1000002]),(5,[1000003]),(7,[1000001])]) rfl (by kernel_rfl) (by kernel_rfl) (by kernel_rfl)
|apply zHK
|apply zHJ rfl
 . conv=>lhs;whnf
 . conv=>lhs;whnf;arg 2;whnf
|apply zIO rfl rfl
 . conv=>lhs;whnf
 . first | exact elemFd | (conv=>lhs;whnf;arg 1;whnf)
 . first | exact fun _=>rfl | (intro _;kernel_rfl)
 . conv=>lhs;whnf
 . rfl
 . conv=>lhs;whnf;arg 1;whnf
 . conv=>lhs;whnf
|apply zCQ rfl rfl rfl
 . conv=>lhs;whnf
 . rfl
 . conv=>lhs;whnf;arg 1;whnf
 . conv=>lhs;whnf;arg 1;whnf
 . exact ⟨by kernel_rfl,by kernel_rfl⟩
 . rfl
|exact Or.inl ⟨pn 2,_,rfl⟩
|refine Or.inr ?_
|apply g_pr (clS al) (zP al) (default:D) rfl
 . conv=>lhs;whnf
 . conv=>lhs;whnf
 . rfl
 . conv=>lhs;whnf;arg 1;whnf
 . first | exact zu _ _
 . first | exact hin
 . exact fun _=>rfl
 . first | (intro _ _;simp only [renL,renV,ren_cells];done) | exact fun _ _=>rfl
 . rfl
 refine fun ee hq tm rs => ?_
 change _=Out.die _
 rotate_left 1
 refine fun aa xx hq => ?_
 first | (cases hq;have hq:=True.intro) | skip
 rotate_left 1
 refine fun ee hq => ?_
 first | (cases hq;done) | skip
|show inO _ _=true;rfl
|apply zDx [aa] rfl rfl
 . conv=>lhs;whnf
 . first | exact elemFd | (conv=>lhs;whnf;arg 1;whnf)
 . rfl
 . rfl
 . repeat' (first | exact trivial | apply And.intro | rfl)
|apply zDx [default] rfl rfl
 . conv=>lhs;whnf
 . first | exact elemFd | (conv=>lhs;whnf;arg 1;whnf)
 . rfl
 . rfl
 . repeat' (first | exact trivial | apply And.intro | rfl)
|apply zCu rfl
|exact trivial)
 all_goals first
  |(refine ⟨by simp,?_,?_⟩<;>simp only [List.length_cons,List.length_nil,maxLen]<;>omega)
  |(rw [zDa hq];rfl)
  |skip
 refine ⟨bsK al (Bf k n im ds) Tf (acc++[aa]) xx,by rw [zKi hq];rfl,rfl,rfl,rfl,?_,trivial⟩
 show some (Res.tok _ (acc.length+1))=some (Res.tok _ (acc++[aa]).length)
 rw [List.length_append];rfl
theorem p_mb (k:Int) (n:List UInt8) (im ds:List D):CK al (Bm k n im ds) Tm 122 [.bx (pn 1) 0,.bx (pn 0) 0] mbQ:=by
 intro acc x h hacc
 have hnm:=zDp h hal
 rcases hN:nameQ x with e1 | ⟨m,y⟩
 . rw [zDa (mb_1 hN)]
   refine zo (fn:=Tryz.f122) 12 Tryz.func122 rfl rfl ?_
   intro pas w0 w he hp
   repeat' (first
|apply zBs 11 ([(1,[1000001]),(2,[1000000]),(4,[1000000])]) ([(3,[1000002]),(5,[1000002]),(8,[1000003]),(10,[1000001])]) rfl (by kernel_rfl) (by kernel_rfl) (by kernel_rfl)
|apply zHK
|apply zHJ rfl
 . conv=>lhs;whnf
 . conv=>lhs;whnf;arg 2;whnf
|apply zIO rfl rfl
 . conv=>lhs;whnf
 . first | exact zFd | (conv=>lhs;whnf;arg 1;whnf)
 . first | exact fun _=>rfl | (intro _;kernel_rfl)
 . conv=>lhs;whnf
 . rfl
 . conv=>lhs;whnf;arg 1;whnf
 . conv=>lhs;whnf
|apply zCQ rfl rfl rfl
 . conv=>lhs;whnf
 . rfl
 . conv=>lhs;whnf;arg 1;whnf
 . conv=>lhs;whnf;arg 1;whnf
 . exact ⟨by kernel_rfl,by kernel_rfl⟩
 . rfl
|exact Or.inl ⟨pn 2,_,rfl⟩
|apply g_pr (clS al) (zP al) ([]:List UInt8) rfl
 . conv=>lhs;whnf
 . conv=>lhs;whnf
 . rfl
 . conv=>lhs;whnf;arg 1;whnf
 . first | exact zu _ _
 . first | exact hnm
 . exact fun _=>rfl
 . first | (intro _ _;simp only [renL,renV,ren_cells];done) | exact fun _ _=>rfl
 . rfl
 refine fun ee hq tm rs => ?_
 change _=Out.die _
 rotate_left 1
 refine fun aa xx hq => ?_
 first | (cases hq;have hq:=True.intro) | skip
 rotate_left 1
 refine fun ee hq => ?_
 first | (cases hq;done) | skip
|apply g_dead (.sl 108 []) (zE9 e1) rfl
 . conv=>lhs;whnf
 . conv=>lhs;whnf
 . rfl
 . rfl
 . rfl
|show inO _ _=true;rfl
|apply zDx [sMbD [] []] rfl rfl
 . conv=>lhs;whnf
 . first | exact zFd | (conv=>lhs;whnf;arg 1;whnf)
 . rfl
 . rfl
 . repeat' (first | exact trivial | apply And.intro | rfl)
|exact trivial
|intro hg)
   all_goals first
    |(intro _ _;rfl)
    |(rw [hN] at hq;cases hq;done)
    |(rw [hN] at hq;cases hq;rfl)
    |(refine ⟨by simp,?_,?_⟩<;>simp only [List.length_cons,List.length_nil,maxLen]<;>omega)
    |skip
 have hN1:=(h.name hN).1
 have hdi:=zGE hal hkd hN1
 rw [hN] at hnm
 refine zo (fn:=Tryz.f122) 12 Tryz.func122 rfl rfl ?_
 intro pas w0 w he hp
 repeat' (first
|apply zBs 11 ([(1,[1000001]),(2,[1000000]),(4,[1000000])]) ([(3,[1000002]),(5,[1000002]),(8,[1000003]),(10,[1000001])]) rfl (by kernel_rfl) (by kernel_rfl) (by kernel_rfl)
|apply zHK
|apply zHJ rfl
 . conv=>lhs;whnf
 . conv=>lhs;whnf;arg 2;whnf
|apply zIO rfl rfl
 . conv=>lhs;whnf
 . first | exact zFd | (conv=>lhs;whnf;arg 1;whnf)
 . first | exact fun _=>rfl | (intro _;kernel_rfl)
 . conv=>lhs;whnf
 . rfl
 . conv=>lhs;whnf;arg 1;whnf
 . conv=>lhs;whnf
|apply zCQ rfl rfl rfl
 . conv=>lhs;whnf
 . rfl
 . conv=>lhs;whnf;arg 1;whnf
 . conv=>lhs;whnf;arg 1;whnf
 . exact ⟨by kernel_rfl,by kernel_rfl⟩
 . rfl
|exact Or.inl ⟨pn 2,_,rfl⟩
|refine Or.inr ?_
|apply g_pr (clS al) (zP al) ([]:List UInt8) rfl
 . conv=>lhs;whnf
 . conv=>lhs;whnf
 . rfl
 . conv=>lhs;whnf;arg 1;whnf
 . first | exact zu _ _
 . first | exact hnm
 . exact fun _=>rfl
 . first | (intro _ _;simp only [renL,renV,ren_cells];done) | exact fun _ _=>rfl
 . rfl
 refine fun ee hq tm rs => ?_
 change _=Out.die _
 rotate_left 1
 refine fun aa xx hq => ?_
 first | (cases hq;have hq:=True.intro) | skip
 rotate_left 1
 refine fun ee hq => ?_
 first | (cases hq;done) | skip
|apply g_pr (clS al) (zP al) ([]:List D) rfl
 . conv=>lhs;whnf
 . conv=>lhs;whnf
 . rfl
 . conv=>lhs;whnf;arg 1;whnf
 . first | exact zu _ _
 . first | exact hdi
 . exact fun _=>rfl
 . first | (intro _ _;simp only [renL,renV,ren_cells];done) | exact fun _ _=>rfl
 . rfl
 refine fun ee hq tm rs => ?_
 change _=Out.die _
 rotate_left 1
 refine fun aa xx hq => ?_
 first | (cases hq;have hq:=True.intro) | skip
 rotate_left 1
 refine fun ee hq => ?_
 first | (cases hq;done) | skip
|show inO _ _=true;rfl
|apply zDx [sMbD m aa] rfl rfl
 . conv=>lhs;whnf
 . first | exact zFd | (conv=>lhs;whnf;arg 1;whnf)
 . rfl
 . rfl
 . repeat' (first | exact trivial | apply And.intro | rfl)
|apply zDx [sMbD m []] rfl rfl
 . conv=>lhs;whnf
 . first | exact zFd | (conv=>lhs;whnf;arg 1;whnf)
 . rfl
 . rfl
 . repeat' (first | exact trivial | apply And.intro | rfl)
|apply zCu rfl
|exact trivial)
 all_goals first
  |(refine ⟨by simp,?_,?_⟩<;>simp only [List.length_cons,List.length_nil,maxLen]<;>omega)
  |(cases hq;done)
  |(rw [zDa (mb_2 hN hq)];rfl)
  |skip
 refine ⟨bsK al (Bm k n im ds) Tm (acc++[sMbD m aa]) xx,by rw [zKi (mb_3 hN hq)];rfl,rfl,rfl,rfl,?_,trivial⟩
 show some (Res.tok _ (acc.length+1))=some (Res.tok _ (acc++[sMbD m aa]).length)
 rw [List.length_append];rfl
end
section
variable {s:List UInt8}
theorem ks_1 (h:((bs s).toList==(⟨#[116,121,112,101]⟩:ByteArray).toList)=true):zBG s=1:=by unfold zBG;rw [if_pos (show s=zHg from zFB h)]
theorem ks_2 (h1:((bs s).toList==(⟨#[116,121,112,101]⟩:ByteArray).toList)=false) (h:((bs s).toList==(⟨#[105,110,116,101,114,102,97,99,101]⟩:ByteArray).toList)=true):zBG s=2:=by unfold zBG;rw [if_neg (show ¬ s=zHg from zBY h1),if_pos (show s=zFS from zFB h)]
theorem ks_3 (h1:((bs s).toList==(⟨#[116,121,112,101]⟩:ByteArray).toList)=false) (h2:((bs s).toList==(⟨#[105,110,116,101,114,102,97,99,101]⟩:ByteArray).toList)=false) (h:((bs s).toList==(⟨#[117,110,105,111,110]⟩:ByteArray).toList)=true):zBG s=3:=by unfold zBG;rw [if_neg (show ¬ s=zHg from zBY h1),if_neg (show ¬ s=zFS from zBY h2),if_pos (show s=zF3 from zFB h)]
theorem ks_4 (h1:((bs s).toList==(⟨#[116,121,112,101]⟩:ByteArray).toList)=false) (h2:((bs s).toList==(⟨#[105,110,116,101,114,102,97,99,101]⟩:ByteArray).toList)=false) (h3:((bs s).toList==(⟨#[117,110,105,111,110]⟩:ByteArray).toList)=false) (h:((bs s).toList==(⟨#[101,110,117,109]⟩:ByteArray).toList)=true):zBG s=4:=by unfold zBG;rw [if_neg (show ¬ s=zHg from zBY h1),if_neg (show ¬ s=zFS from zBY h2),if_neg (show ¬ s=zF3 from zBY h3),if_pos (show s=enumT from zFB h)]
theorem ks_5 (h1:((bs s).toList==(⟨#[116,121,112,101]⟩:ByteArray).toList)=false) (h2:((bs s).toList==(⟨#[105,110,116,101,114,102,97,99,101]⟩:ByteArray).toList)=false) (h3:((bs s).toList==(⟨#[117,110,105,111,110]⟩:ByteArray).toList)=false) (h4:((bs s).toList==(⟨#[101,110,117,109]⟩:ByteArray).toList)=false) (h:((bs s).toList==(⟨#[105,110,112,117,116]⟩:ByteArray).toList)=true):zBG s=5:=by unfold zBG;rw [if_neg (show ¬ s=zHg from zBY h1),if_neg (show ¬ s=zFS from zBY h2),if_neg (show ¬ s=zF3 from zBY h3),if_neg (show ¬ s=enumT from zBY h4),if_pos (show s=zKR from zFB h)]
theorem ks_0 (h1:((bs s).toList==(⟨#[116,121,112,101]⟩:ByteArray).toList)=false) (h2:((bs s).toList==(⟨#[105,110,116,101,114,102,97,99,101]⟩:ByteArray).toList)=false) (h3:((bs s).toList==(⟨#[117,110,105,111,110]⟩:ByteArray).toList)=false) (h4:((bs s).toList==(⟨#[101,110,117,109]⟩:ByteArray).toList)=false) (h:((bs s).toList==(⟨#[105,110,112,117,116]⟩:ByteArray).toList)=false):zBG s=0:=by unfold zBG;rw [if_neg (show ¬ s=zHg from zBY h1),if_neg (show ¬ s=zFS from zBY h2),if_neg (show ¬ s=zF3 from zBY h3),if_neg (show ¬ s=enumT from zBY h4),if_neg (show ¬ s=zKR from zBY h)]
end
theorem p_kindOf (s:List UInt8):AC EN5 Tryz.prog 50 [.c (.string (bs s))] (.c (.int .i64 (zBG s))):=by
 refine zN 14 Tryz.func50 rfl rfl rfl rfl ?_
 intro s0 w he
 repeat' (first
|refine zA ?_
|refine zB ?_
|refine zH ?_
|refine zR ?_
|apply aw_1
 conv=>whnf
 refine ⟨?_,trivial⟩
|apply s_1
 conv=>whnf;arg 1;arg 4;arg 3;whnf
 refine ⟨?_,?_⟩
|refine zZ (by conv=>lhs;whnf) ?_ ?_<;>intro hb
|refine zO ?_
|refine zQ ?_
|refine zE ?_
|refine ⟨_,by conv=>lhs;whnf;arg 2;whnf,?_⟩;conv=>rhs;whnf
|exact trivial)
 all_goals first
  |rw [ks_1 ‹_›]
  |rw [ks_2 ‹_› ‹_›]
  |rw [ks_3 ‹_› ‹_› ‹_›]
  |rw [ks_4 ‹_› ‹_› ‹_› ‹_›]
  |rw [ks_5 ‹_› ‹_› ‹_› ‹_› ‹_›]
  |rw [ks_0 ‹_› ‹_› ‹_› ‹_› ‹_›]
noncomputable def HnS (al:List Tok) (z:PS) (s:List UInt8) (acc:List D):Vst 20:=
 stS 20 [(0,.bx (pn 0) 0),(1,.c (.string (bs s))),(5,.own 5 9 acc)] [(pn 0,boxS al z),(5,.tok 9 acc.length)]
theorem p_names {al:List Tok} (hal:al.length<=100000) (s:List UInt8) {x:PS} (h:Sx al x):ACE EN5 Tryz.prog 117 [.bx (pn 0) 0,.c (.string (bs s))] [boxS al x] (outS al (fun l => .sl 9 l) (zBl s x)):=by
 have e0:zBl s x=namesF s (x.ts.length+1) [] x:=rfl
 have hxl:=h.len
 rw [e0]
 refine zo (fn:=Tryz.f117) 20 Tryz.func117 rfl rfl ?_
 intro pas w0 w he hp
 repeat' (first
|refine zA ?_
|refine zB ?_
|refine zH ?_
|apply aw_1
 conv=>whnf
 refine ⟨?_,trivial⟩
|apply s_1
 conv=>whnf;arg 1;arg 4;arg 3;whnf
 refine ⟨?_,?_⟩
|exact trivial)
 refine zg (Sub.own (t:=5) (e:=9) rfl rfl) ?_
 refine zi (fun j st => ∃ z acc,Sx al z/\z.ts.length<j/\acc.length+z.ts.length<=x.ts.length/\namesF s (x.ts.length+1) [] x=namesF s j acc z/\Sub (cxE EN5 Tryz.prog pas w0 w he hp (outS al (fun l=>V.sl 9 l) (namesF s (x.ts.length+1) [] x))) st (HnS al z s acc)) (x.ts.length+1) ⟨x,[],h,by omega,by simp,rfl,?_⟩ ?_
 . exact Sub.live ⟨rfl,rfl,rfl,trivial⟩ ⟨rfl,rfl,trivial⟩
 rintro j st ⟨z,acc,hz,hzj,hzl,hI,hsub⟩
 refine zg hsub ?_
 clear hsub
 rw [hI]
 clear hI
 cases j with
 |zero=>omega
 |succ j =>
 have hr:=p_room hz hal acc.length 64
 have hnm:=zDp hz hal
 by_cases hL:(hdT z).k=2/\64<=acc.length
 . rw [namesF,if_pos hL]
   rw [zHw,if_pos hL] at hr
   repeat' (first
|apply s_pr (clS al) (zP al) rfl
 . conv=>lhs;whnf
 . conv=>lhs;whnf
 . rfl
 . conv=>lhs;whnf;arg 1;whnf
 . first | exact zu _ _
 . first | exact hr
 . exact fun _=>rfl
 . first | (intro _ _;simp only [renL,renV,ren_cells];done) | exact fun _ _=>rfl
 refine fun ee hq => ?_
 change _=Out.die _
 rotate_left 1
 refine fun aa xx hq => ?_
 first | (replace hq:=zAM hq;obtain ⟨hq,rfl⟩:=hq) | (cases hq;have hq:=True.intro) | skip
|refine zA ?_
|apply aw_1
 conv=>whnf
 refine ⟨?_,trivial⟩
|apply s_1
 conv=>whnf;arg 1;arg 4;arg 3;whnf
 refine ⟨?_,?_⟩
|exact trivial)
   all_goals first
    |exact zA3 ‹_›
    |(cases hq;done)
 rw [namesF,if_neg hL]
 rw [zHw,if_neg hL] at hr
 rcases hN:nameQ z with e1 | ⟨n,y⟩
 . rw [hN] at hnm
   repeat' (first
|apply s_pr (clS al) (zP al) rfl
 . conv=>lhs;whnf
 . conv=>lhs;whnf
 . rfl
 . conv=>lhs;whnf;arg 1;whnf
 . first | exact zu _ _
 . first | exact hr | exact hnm
 . exact fun _=>rfl
 . first | (intro _ _;simp only [renL,renV,ren_cells];done) | exact fun _ _=>rfl
 refine fun ee hq => ?_
 change _=Out.die _
 rotate_left 1
 refine fun aa xx hq => ?_
 first | (replace hq:=zAM hq;obtain ⟨hq,rfl⟩:=hq) | (cases hq;have hq:=True.intro) | skip
|refine zA ?_
|refine zB ?_
|refine zH ?_
|apply aw_1
 conv=>whnf
 refine ⟨?_,trivial⟩
|apply s_1
 conv=>whnf;arg 1;arg 4;arg 3;whnf
 refine ⟨?_,?_⟩
|exact trivial)
   all_goals first
    |exact zA3 ‹_›
    |(cases hq;done)
    |(rw [zw rfl];exact zA3 ‹_›)
    |skip
 have hN1:=hz.name hN
 rw [hN] at hnm
 rw [zX rfl]
 by_cases hs:isS y s=true
 . have ha:=zFI hN1.1 hal hs
   have h2:=hN1.1.sg hs
   rw [if_pos hs]
   repeat' (first
|apply s_m (clS al) (zP al) rfl
 . conv=>lhs;whnf
 . conv=>lhs;whnf
 . rfl
 . conv=>lhs;whnf;arg 1;whnf
 . first | exact zu _ _
 . first | exact ha
 . exact fun _=>rfl
 . exact fun _=>rfl
|apply zEg [strD n] rfl rfl
 . conv=>lhs;whnf
 . first | exact zm | (conv=>lhs;whnf;arg 1;whnf)
 . rfl
 . rfl
 . repeat' (first | exact trivial | apply And.intro | rfl)
|apply s_pr (clS al) (zP al) rfl
 . conv=>lhs;whnf
 . conv=>lhs;whnf
 . rfl
 . conv=>lhs;whnf;arg 1;whnf
 . first | exact zu _ _
 . first | exact hr | exact hnm
 . exact fun _=>rfl
 . first | (intro _ _;simp only [renL,renV,ren_cells];done) | exact fun _ _=>rfl
 refine fun ee hq => ?_
 change _=Out.die _
 rotate_left 1
 refine fun aa xx hq => ?_
 first | (replace hq:=zAM hq;obtain ⟨hq,rfl⟩:=hq) | (cases hq;have hq:=True.intro) | skip
|refine zA ?_
|refine zB ?_
|refine zH ?_
|refine zR ?_
|apply aw_1
 conv=>whnf
 refine ⟨?_,trivial⟩
|apply s_1
 conv=>whnf;arg 1;arg 4;arg 3;whnf
 refine ⟨?_,?_⟩
|apply zBf rfl rfl
 . conv=>lhs;whnf
 . first | exact zm | (conv=>lhs;whnf;arg 1;whnf)
 . first | exact fun _=>rfl | (intro _;kernel_rfl)
 . conv=>lhs;whnf
 . conv=>lhs;whnf;arg 1;whnf
 . conv=>lhs;whnf
|exact trivial)
   all_goals first
    |(cases hq;done)
    |(refine ⟨by simp,?_,?_⟩<;>simp only [List.length_cons,List.length_nil,maxLen]<;>omega)
    |skip
   refine zI (j':=j) (by omega) ⟨nxT y,acc++[strD n],h2.1,by omega,by rw [List.length_append];simp only [List.length_cons,List.length_nil];omega,rfl,Sub.live ⟨rfl,rfl,rfl,trivial⟩ ⟨rfl,?_,trivial⟩⟩
   show some (Res.tok _ (acc.length+1))=some (Res.tok _ (acc++[strD n]).length)
   rw [List.length_append];rfl
 . have hs:isS y s=false:=by simpa using hs
   have ha:=zDq hN1.1 hal hs
   rw [if_neg (by rw [hs];decide)]
   repeat' (first
|apply s_m (clS al) (zP al) rfl
 . conv=>lhs;whnf
 . conv=>lhs;whnf
 . rfl
 . conv=>lhs;whnf;arg 1;whnf
 . first | exact zu _ _
 . first | exact ha
 . exact fun _=>rfl
 . exact fun _=>rfl
|apply zEg [strD n] rfl rfl
 . conv=>lhs;whnf
 . first | exact zm | (conv=>lhs;whnf;arg 1;whnf)
 . rfl
 . rfl
 . repeat' (first | exact trivial | apply And.intro | rfl)
|apply s_pr (clS al) (zP al) rfl
 . conv=>lhs;whnf
 . conv=>lhs;whnf
 . rfl
 . conv=>lhs;whnf;arg 1;whnf
 . first | exact zu _ _
 . first | exact hr | exact hnm
 . exact fun _=>rfl
 . first | (intro _ _;simp only [renL,renV,ren_cells];done) | exact fun _ _=>rfl
 refine fun ee hq => ?_
 change _=Out.die _
 rotate_left 1
 refine fun aa xx hq => ?_
 first | (replace hq:=zAM hq;obtain ⟨hq,rfl⟩:=hq) | (cases hq;have hq:=True.intro) | skip
|refine zA ?_
|refine zB ?_
|refine zH ?_
|apply aw_1
 conv=>whnf
 refine ⟨?_,trivial⟩
|apply s_1
 conv=>whnf;arg 1;arg 4;arg 3;whnf
 refine ⟨?_,?_⟩
|apply zBf rfl rfl
 . conv=>lhs;whnf
 . first | exact zm | (conv=>lhs;whnf;arg 1;whnf)
 . first | exact fun _=>rfl | (intro _;kernel_rfl)
 . conv=>lhs;whnf
 . conv=>lhs;whnf;arg 1;whnf
 . conv=>lhs;whnf
|refine zQ ?_
|refine zy ?_
|apply zAb rfl
 . conv=>lhs;whnf;arg 2;whnf
 . conv=>lhs;whnf;arg 1;whnf
|exact trivial)
   all_goals first
    |(cases hq;done)
    |(refine ⟨by simp,?_,?_⟩<;>simp only [List.length_cons,List.length_nil,maxLen]<;>omega)
    |rfl
end
end Go.Proofs.YthppafnlnnpciaaGreatDoor
