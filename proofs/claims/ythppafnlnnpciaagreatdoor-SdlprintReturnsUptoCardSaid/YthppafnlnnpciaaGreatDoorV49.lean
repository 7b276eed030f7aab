import Derived.Test.YthppafnlnnpciaaGreatDoorV48
set_option maxHeartbeats 8000000
set_option maxRecDepth 100000
set_option linter.unusedVariables false
set_option linter.unusedSimpArgs false
namespace Go.Proofs.YthppafnlnnpciaaGreatDoor
section
open Go.RowKit
noncomputable def zHT:Code:=match Tryz.f52.body with
 |some (.seq _ (.seq _ (.seq _ (.seq _ y))))=>y
 |_ => .skip
noncomputable def VDf (d:D):V:=.agg (cellsV Tryz.prog 12 45 d)
noncomputable def VMb (d:D):V:=.agg (cellsV Tryz.prog 12 79 d)
def zDef:List V:=[.c (.int .i64 0),.c (.string ⟨#[]⟩),.c (.slice none 0 0),.c (.slice none 0 0),.c (.slice none 0 0),.c (.slice none 0 0),.c (.slice none 0 0)]
noncomputable def HdD (al:List Tok) (u:PS) (k:Int) (n:List UInt8) (im ds:List D):Vst 74:=
 stS 74 [(1,.c (.int .i64 k)),(2,.bx 2 0),(4,.bx 4 0),(5,.bx 5 0)] [(pn 0,boxS al u),(2,.box 62 [.bx (pn 0) 0]),(4,.box 45 zDef),(5,.box 45 [.c (.int .i64 k),.c (.string (bs n)),.sl 9 im,.sl 108 ds,.c (.slice none 0 0),.c (.slice none 0 0),.c (.slice none 0 0)])]
noncomputable def HdM (al:List Tok) (u:PS) (k:Int) (n:List UInt8) (im ds:List D):Vst 74:=
 stS 74 [(1,.c (.int .i64 k)),(2,.bx 2 0),(4,.bx 4 0),(5,.bx 5 0)] [(pn 0,boxS al u),(2,.box 62 [.bx (pn 0) 0]),(4,.box 45 zDef),(5,.box 45 [.c (.int .i64 k),.c (.string (bs n)),.sl 9 im,.sl 108 ds,.c (.slice none 0 0),.own 904 79 [],.c (.slice none 0 0)]),(904,.tok 79 0)]
noncomputable def HdF (al:List Tok) (u:PS) (k:Int) (n:List UInt8) (im ds:List D):Vst 74:=
 stS 74 [(1,.c (.int .i64 k)),(2,.bx 2 0),(4,.bx 4 0),(5,.bx 5 0)] [(pn 0,boxS al u),(2,.box 62 [.bx (pn 0) 0]),(4,.box 45 zDef),(5,.box 45 [.c (.int .i64 k),.c (.string (bs n)),.sl 9 im,.sl 108 ds,.own 904 50 [],.c (.slice none 0 0),.c (.slice none 0 0)]),(904,.tok 50 0)]
noncomputable def HdU (al:List Tok) (u:PS) (k:Int) (n:List UInt8) (im ds l:List D) (i:Nat):Vst 74:=
 stS 74 [(1,.c (.int .i64 k)),(2,.bx 2 0),(4,.bx 4 0),(5,.bx 5 0),(42,.sl 9 l),(43,.c (.int .i64 (l.length:Int))),(44,.c (.int .i64 (i:Int)))] [(pn 0,boxS al u),(2,.box 62 [.bx (pn 0) 0]),(4,.box 45 zDef),(5,.box 45 [.c (.int .i64 k),.c (.string (bs n)),.sl 9 im,.sl 108 ds,.c (.slice none 0 0),.own 904 79 ((l.take i).map mbOf),.c (.slice none 0 0)]),(904,.tok 79 ((l.take i).map mbOf).length)]
attribute [local irreducible] wpList Calls Code.wp AW AWo OpOk seqK zz z8 loopK endK AC zl Yld Sub
attribute [local irreducible] ACB ACX ACE absLexG YldG YldU
theorem zIB {al:List Tok} {s:List UInt8} {l:List D} {y:PS} : ∀ (f:Nat) (acc:List D) (x:PS),Sx al x->namesF s f acc x = .ok (l,y)->l.length+y.ts.length<=acc.length+x.ts.length
 |0,_,_,_,h=>by cases h
 |f+1,acc,x,hx,h=>by
  unfold namesF at h
  split at h
  . cases h
  . cases hN:nameQ x with
    |error e=>rw [zw hN] at h;cases h
    |ok p =>
     obtain ⟨n,z⟩:=p
     rw [zX hN] at h
     have h1:=hx.name hN
     split at h
     . rename_i hs
       have h2:=h1.1.sg hs
       have h3:=zIB f _ _ h2.1 h
       rw [List.length_append] at h3
       simp only [List.length_cons,List.length_nil] at h3
       omega
     . cases h
       rw [List.length_append]
       simp only [List.length_cons,List.length_nil]
       omega
def defT (k:Int) (n:List UInt8) (im ds:List D) (u:PS):PR D:=thenQ (bodyQ k u) fun b v => .ok (sDfD k n im ds b.1 b.2.1 b.2.2,v)
section
variable {al:List Tok} (hal:al.length<=100000) (hkd:Kd al)
include hal hkd
-- (for avx.py: zo 74 Tryz.func52)
theorem def_in (n:List UInt8) (im ds:List D) {u:PS} (hu:Sx al u) {pas:Nat->Prop} {w0:Sg} {w:World} {he:EN5.E w} {hp : ∀ k,k<EN5.G -> ¬ pas k} :
 AW (cxE EN5 Tryz.prog pas w0 w he hp (outS al VDf (defT 5 n im ds u))) zHT (HdD al u 5 n im ds) (zFc Tryz.prog Tryz.f52.results (outS al VDf (defT 5 n im ds u))):=by
 unfold zHT
 simp only [Tryz.f52]
 have hex:=zBL hu hal [123]
 have hin : ∀ {a y},takeQ [123] u = .ok (a,y)->ACE EN5 Tryz.prog 120 [.bx (pn 0) 0,.c (.string (bs [125]))] [boxS al y] (outS al (fun l => .sl 55 l) (insQ [125] y)):=fun h=>zJ4 hal hkd [125] (hu.take h).1
 have e0:bodyQ 5 u=thenQ (takeQ [123] u) fun _ y=>thenQ (insQ [125] y) fun l z => .ok (([],[],l),z):=rfl
 repeat' (first
|apply zAx (VDf (sDfD 5 n im ds [] [] _)) rfl rfl
 . conv=>lhs;whnf;arg 2;whnf
 . repeat' (first | exact VLe.refl _ | exact VLe.nil _ | exact VLe.lit _ _ | exact VLe.own _ _ _ | apply VLe.agg | apply VLeL.cons | exact VLeL.nil)
|apply s_pr (clS al) (zP al) rfl
 . conv=>lhs;whnf
 . conv=>lhs;whnf
 . rfl
 . conv=>lhs;whnf;arg 1;whnf
 . first | exact zu _ _
 . first | exact hex | exact hin ‹_›
 . exact fun _=>rfl
 . first | (intro _ _;simp only [renL,renV,ren_cells];done) | exact fun _ _=>rfl
 refine fun ee hq => ?_
 change _=Out.die _
 rotate_left 1
 refine fun aa xx hq => ?_
 first | (replace hq:=zAM hq;obtain ⟨hq,rfl⟩:=hq) | (cases hq;have hq:=True.intro) | skip
|refine zA ?_
|refine zB ?_
|refine zH ?_
|refine zR ?_
|apply aw_1
 conv=>whnf
 refine ⟨?_,trivial⟩
|apply s_1
 conv=>whnf;arg 1;arg 4;arg 3;whnf
 refine ⟨?_,?_⟩
|apply zS rfl rfl rfl
 . conv=>lhs;whnf
 . conv=>lhs;whnf;arg 1;whnf
 . conv=>lhs;whnf;arg 1;whnf
 . exact ⟨by kernel_rfl,by kernel_rfl⟩
 . rfl
|apply zAb rfl
 . conv=>lhs;whnf;arg 2;whnf
 . conv=>lhs;whnf;arg 1;whnf
|exact trivial)
 all_goals first
  |(rw [defT,e0,zw (by assumption:takeQ [123] u=_)];rfl)
  |(rw [defT,e0,zX (by assumption:takeQ [123] u=_),zw hq];rfl)
  |(rw [defT,e0,zX (by assumption:takeQ [123] u=_),zX hq];rfl)
  |skip
theorem def_mb (n:List UInt8) (im ds:List D) {u:PS} (hu:Sx al u) {pas:Nat->Prop} {w0:Sg} {w:World} {he:EN5.E w} {hp : ∀ k,k<EN5.G -> ¬ pas k} :
 AW (cxE EN5 Tryz.prog pas w0 w he hp (outS al VDf (defT 4 n im ds u))) zHT (HdD al u 4 n im ds) (zFc Tryz.prog Tryz.f52.results (outS al VDf (defT 4 n im ds u))):=by
 unfold zHT
 simp only [Tryz.f52]
 have hex:=zBL hu hal [123]
 have e0:bodyQ 4 u=thenQ (takeQ [123] u) fun _ y=>thenQ (mbsQ y) fun l z => .ok (([],l,[]),z):=rfl
 rcases hT:takeQ [123] u with e1 | ⟨⟨⟩,y⟩
 . have K : ∀ {a y},takeQ [123] u = .ok (a,y)->False:=fun h=>by rw [hT] at h;cases h
   repeat' (first
|apply s_pr (clS al) (zP al) rfl
 . conv=>lhs;whnf
 . conv=>lhs;whnf
 . rfl
 . conv=>lhs;whnf;arg 1;whnf
 . first | exact zu _ _
 . first | exact hex
 . exact fun _=>rfl
 . first | (intro _ _;simp only [renL,renV,ren_cells];done) | exact fun _ _=>rfl
 refine fun ee hq => ?_
 change _=Out.die _
 rotate_left 1
 refine fun aa xx hq => ?_
 first | (replace hq:=zAM hq;obtain ⟨hq,rfl⟩:=hq) | (cases hq;have hq:=True.intro) | skip
|exact (K ‹_›).elim
|refine zA ?_
|refine zB ?_
|refine zH ?_
|apply aw_1
 conv=>whnf
 refine ⟨?_,trivial⟩
|apply s_1
 conv=>whnf;arg 1;arg 4;arg 3;whnf
 refine ⟨?_,?_⟩
|exact trivial)
   all_goals (rw [defT,e0,zw hq];rfl)
 rw [hT] at hex
 have hy:=(hu.take hT).1
 have hbk:=zG3 hal ent_1 (ren_m 4 n im ds) (p_mb hal hkd 4 n im ds) (fun x h=>mbq_no h) (fun h hq=>h.mb hq) [125] 64 (y.ts.length+1) hy (by omega)
 have e1:defT 4 n im ds u=thenQ (manyF mbQ [125] 64 (y.ts.length+1) [] y) fun l z => .ok (sDfD 4 n im ds [] l [],z):=by
  rw [defT,e0,zX hT]
  show thenQ (thenQ (manyF mbQ [125] 64 (y.ts.length+1) [] y) _) _=_
  rw [zDR];rfl
 rw [e1]
 repeat' (first
|apply zAx (VDf (sDfD 4 n im ds [] _ [])) rfl rfl
 . conv=>lhs;whnf;arg 2;whnf
 . repeat' (first | exact VLe.refl _ | exact VLe.nil _ | exact VLe.lit _ _ | exact VLe.own _ _ _ | apply VLe.agg | apply VLeL.cons | exact VLeL.nil)
|apply s_pr (clS al) (zP al) rfl
 . conv=>lhs;whnf
 . conv=>lhs;whnf
 . rfl
 . conv=>lhs;whnf;arg 1;whnf
 . first | exact zu _ _
 . first | exact hex
 . exact fun _=>rfl
 . first | (intro _ _;simp only [renL,renV,ren_cells];done) | exact fun _ _=>rfl
 refine fun ee hq => ?_
 change _=Out.die _
 rotate_left 1
 refine fun aa xx hq => ?_
 first | (replace hq:=zAM hq;obtain ⟨hq,rfl⟩:=hq) | (cases hq;have hq:=True.intro) | skip
|apply zGu [2,5,pn 0,904] rfl
 . conv=>lhs;whnf
 . conv=>lhs;whnf
 . first | exact hbk
 . decide
 . rfl
 . rfl
 refine fun ee hq => ?_
 change _=Out.die _
 rotate_left 1
 refine fun aa xx hq => ?_
 first | (cases hq;have hq:=True.intro) | skip
|apply z7 15 (HdM al y 4 n im ds) rfl
|refine zCB ?_
|refine zA ?_
|refine zB ?_
|refine zH ?_
|refine zR ?_
|apply aw_1
 conv=>whnf
 refine ⟨?_,trivial⟩
|apply s_1
 conv=>whnf;arg 1;arg 4;arg 3;whnf
 refine ⟨?_,?_⟩
|apply zS rfl rfl rfl
 . conv=>lhs;whnf
 . conv=>lhs;whnf;arg 1;whnf
 . conv=>lhs;whnf;arg 1;whnf
 . exact ⟨by kernel_rfl,by kernel_rfl⟩
 . rfl
|apply zAb rfl
 . conv=>lhs;whnf;arg 2;whnf
 . conv=>lhs;whnf;arg 1;whnf
|exact trivial)
 all_goals first
  |(cases hq;done)
  |exact (Sub.ownF (m:=5) (q:=904) (i:=5) (e:=79) rfl (by decide) rfl rfl rfl).trans (Sub.live ⟨rfl,rfl,rfl,rfl,trivial⟩ ⟨rfl,rfl,rfl,rfl,rfl,trivial⟩)
  |(rw [mnK_er hq];rfl)
  |(obtain ⟨l,z⟩:=xx
    rw [mnK_ok hq];rfl)
  |skip
theorem def_fd (k:Int) (hk:k≠3/\k≠4/\k≠5) (n:List UInt8) (im ds:List D) {u:PS} (hu:Sx al u) {pas:Nat->Prop} {w0:Sg} {w:World} {he:EN5.E w} {hp : ∀ k,k<EN5.G -> ¬ pas k} :
 AW (cxE EN5 Tryz.prog pas w0 w he hp (outS al VDf (defT k n im ds u))) zHT (HdD al u k n im ds) (zFc Tryz.prog Tryz.f52.results (outS al VDf (defT k n im ds u))):=by
 unfold zHT
 simp only [Tryz.f52]
 have hex:=zBL hu hal [123]
 have e0:bodyQ k u=thenQ (takeQ [123] u) fun _ y=>thenQ (fdsQ y) fun l z => .ok ((l,[],[]),z):=by
  unfold bodyQ
  rw [if_neg hk.1]
  congr 1
  funext _ y
  rw [if_neg hk.2.2,if_neg hk.2.1]
 have K3:(k==3)=true->False:=fun h=>hk.1 (by simpa using h)
 have K4:(k==4)=true->False:=fun h=>hk.2.1 (by simpa using h)
 have K5:(k==5)=true->False:=fun h=>hk.2.2 (by simpa using h)
 rcases hT:takeQ [123] u with e1 | ⟨⟨⟩,y⟩
 . have K : ∀ {a y},takeQ [123] u = .ok (a,y)->False:=fun h=>by rw [hT] at h;cases h
   repeat' (first
|apply s_pr (clS al) (zP al) rfl
 . conv=>lhs;whnf
 . conv=>lhs;whnf
 . rfl
 . conv=>lhs;whnf;arg 1;whnf
 . first | exact zu _ _
 . first | exact hex
 . exact fun _=>rfl
 . first | (intro _ _;simp only [renL,renV,ren_cells];done) | exact fun _ _=>rfl
 refine fun ee hq => ?_
 change _=Out.die _
 rotate_left 1
 refine fun aa xx hq => ?_
 first | (replace hq:=zAM hq;obtain ⟨hq,rfl⟩:=hq) | (cases hq;have hq:=True.intro) | skip
|exact (K ‹_›).elim
|exact (K3 ‹_›).elim
|refine zA ?_
|refine zB ?_
|refine zH ?_
|apply aw_1
 conv=>whnf
 refine ⟨?_,trivial⟩
|apply s_1
 conv=>whnf;arg 1;arg 4;arg 3;whnf
 refine ⟨?_,?_⟩
|refine zZ (by conv=>lhs;whnf) ?_ ?_<;>intro hb
|exact trivial)
   all_goals (rw [defT,e0,zw hq];rfl)
 rw [hT] at hex
 have hy:=(hu.take hT).1
 have hbk:=zG3 hal ent_2 (ren_f k n im ds) (p_fd hal hkd k n im ds) (fun x h=>fdq_no h) (fun h hq=>h.fd hq) [125] 64 (y.ts.length+1) hy (by omega)
 have e1:defT k n im ds u=thenQ (manyF fdQ [125] 64 (y.ts.length+1) [] y) fun l z => .ok (sDfD k n im ds l [] [],z):=by
  rw [defT,e0,zX hT]
  show thenQ (thenQ (manyF fdQ [125] 64 (y.ts.length+1) [] y) _) _=_
  rw [zDR];rfl
 rw [e1]
 repeat' (first
|apply zAx (VDf (sDfD k n im ds _ [] [])) rfl rfl
 . conv=>lhs;whnf;arg 2;whnf
 . repeat' (first | exact VLe.refl _ | exact VLe.nil _ | exact VLe.lit _ _ | exact VLe.own _ _ _ | apply VLe.agg | apply VLeL.cons | exact VLeL.nil)
|apply s_pr (clS al) (zP al) rfl
 . conv=>lhs;whnf
 . conv=>lhs;whnf
 . rfl
 . conv=>lhs;whnf;arg 1;whnf
 . first | exact zu _ _
 . first | exact hex
 . exact fun _=>rfl
 . first | (intro _ _;simp only [renL,renV,ren_cells];done) | exact fun _ _=>rfl
 refine fun ee hq => ?_
 change _=Out.die _
 rotate_left 1
 refine fun aa xx hq => ?_
 first | (replace hq:=zAM hq;obtain ⟨hq,rfl⟩:=hq) | (cases hq;have hq:=True.intro) | skip
|apply zGu [2,5,pn 0,904] rfl
 . conv=>lhs;whnf
 . conv=>lhs;whnf
 . first | exact hbk
 . decide
 . rfl
 . rfl
 refine fun ee hq => ?_
 change _=Out.die _
 rotate_left 1
 refine fun aa xx hq => ?_
 first | (cases hq;have hq:=True.intro) | skip
|exact (K3 ‹_›).elim
|exact (K4 ‹_›).elim
|exact (K5 ‹_›).elim
|apply z7 15 (HdF al y k n im ds) rfl
|refine zCB ?_
|refine zA ?_
|refine zB ?_
|refine zH ?_
|refine zR ?_
|apply aw_1
 conv=>whnf
 refine ⟨?_,trivial⟩
|apply s_1
 conv=>whnf;arg 1;arg 4;arg 3;whnf
 refine ⟨?_,?_⟩
|apply zS rfl rfl rfl
 . conv=>lhs;whnf
 . conv=>lhs;whnf;arg 1;whnf
 . conv=>lhs;whnf;arg 1;whnf
 . exact ⟨by kernel_rfl,by kernel_rfl⟩
 . rfl
|refine zZ (by conv=>lhs;whnf) ?_ ?_<;>intro hb
|apply zAb rfl
 . conv=>lhs;whnf;arg 2;whnf
 . conv=>lhs;whnf;arg 1;whnf
|exact trivial)
 all_goals first
  |(cases hq;done)
  |exact (Sub.ownF (m:=5) (q:=904) (i:=4) (e:=50) rfl (by decide) rfl rfl rfl).trans (Sub.live ⟨rfl,rfl,rfl,rfl,trivial⟩ ⟨rfl,rfl,rfl,rfl,rfl,trivial⟩)
  |(rw [mnK_er hq];rfl)
  |(obtain ⟨l,z⟩:=xx
    rw [mnK_ok hq];rfl)
  |skip
omit hkd in
theorem def_un (n:List UInt8) (im ds:List D) {u:PS} (hu:Sx al u) {pas:Nat->Prop} {w0:Sg} {w:World} {he:EN5.E w} {hp : ∀ k,k<EN5.G -> ¬ pas k} :
 AW (cxE EN5 Tryz.prog pas w0 w he hp (outS al VDf (defT 3 n im ds u))) zHT (HdD al u 3 n im ds) (zFc Tryz.prog Tryz.f52.results (outS al VDf (defT 3 n im ds u))):=by
 unfold zHT
 simp only [Tryz.f52]
 have hex:=zBL hu hal [61]
 have e0:bodyQ 3 u=thenQ (takeQ [61] u) fun _ y=>thenQ (zBl [124] y) fun l z => .ok (([],l.map mbOf,[]),z):=rfl
 have hna : ∀ {a y},takeQ [61] u = .ok (a,y)->ACE EN5 Tryz.prog 117 [.bx (pn 0) 0,.c (.string (bs [124]))] [boxS al y] (outS al (fun l => .sl 9 l) (zBl [124] y)):=fun h=>p_names hal [124] (hu.take h).1
 repeat' (first
|apply s_pr (clS al) (zP al) rfl
 . conv=>lhs;whnf
 . conv=>lhs;whnf
 . rfl
 . conv=>lhs;whnf;arg 1;whnf
 . first | exact zu _ _
 . first | exact hex | exact hna ‹_›
 . exact fun _=>rfl
 . first | (intro _ _;simp only [renL,renV,ren_cells];done) | exact fun _ _=>rfl
 refine fun ee hq => ?_
 change _=Out.die _
 rotate_left 1
 refine fun aa xx hq => ?_
 first | (replace hq:=zAM hq;obtain ⟨hq,rfl⟩:=hq) | (cases hq;have hq:=True.intro) | skip
|refine zA ?_
|refine zB ?_
|refine zH ?_
|apply aw_1
 conv=>whnf
 refine ⟨?_,trivial⟩
|apply s_1
 conv=>whnf;arg 1;arg 4;arg 3;whnf
 refine ⟨?_,?_⟩
|exact trivial)
 all_goals first
  |(rw [defT,e0,zw (by assumption:takeQ [61] u=_)];rfl)
  |(rw [defT,e0,zX (by assumption:takeQ [61] u=_),zw hq];rfl)
  |skip
 rename_i a1 y hT
 have hy:=(hu.take hT).1
 have hz:=hy.names hq
 have hlen:aa.length<=100000:=by
  have:=zIB _ [] y hy hq
  have:=hy.len
  simp only [List.length_nil] at *
  omega
 have e1:defT 3 n im ds u = .ok (sDfD 3 n im ds [] (aa.map mbOf) [],xx):=by rw [defT,e0,zX hT,zX hq];rfl
 rw [e1]
 refine zg (Sub.ownF (m:=5) (q:=904) (i:=5) (e:=79) rfl (by decide) rfl rfl rfl) ?_
 refine zi (fun j st => ∃ i,i+j=aa.length/\Sub (cxE EN5 Tryz.prog pas w0 w he hp (outS al VDf (.ok (sDfD 3 n im ds [] (aa.map mbOf) [],xx)))) st (HdU al xx 3 n im ds aa i)) aa.length ⟨0,by omega,?_⟩ ?_
 . exact Sub.live ⟨rfl,rfl,rfl,rfl,rfl,rfl,rfl,trivial⟩ ⟨rfl,rfl,rfl,rfl,rfl,trivial⟩
 rintro j st ⟨i,hij,hsub⟩
 refine zg hsub ?_
 clear hsub
 have K:i<aa.length->decide ((i:Int)<(aa.length:Int))=false->False:=fun h2 h=>by simp at h;omega
 have K2:i=aa.length->decide ((i:Int)<(aa.length:Int))=true->False:=fun h2 h=>by simp at h;omega
 by_cases hi:i<aa.length
 . repeat' (first
|apply zAx (VMb (mbOf (gD aa i))) rfl rfl
 . conv=>lhs;whnf;arg 2;whnf
 . repeat' (first | exact VLe.refl _ | exact VLe.nil _ | exact VLe.lit _ _ | exact VLe.own _ _ _ | apply VLe.agg | apply VLeL.cons | exact VLeL.nil)
|apply zEg [mbOf (gD aa i)] rfl rfl
 . conv=>lhs;whnf
 . first | exact zFd | (conv=>lhs;whnf;arg 1;whnf)
 . rfl
 . rfl
 . repeat' (first | exact trivial | apply And.intro | rfl)
|exact (K hi ‹_›).elim
|refine zA ?_
|refine zB ?_
|refine zH ?_
|refine zR ?_
|apply aw_1
 conv=>whnf
 refine ⟨?_,trivial⟩
|apply s_1
 conv=>whnf;arg 1;arg 4;arg 3;whnf
 refine ⟨?_,?_⟩
|apply zS rfl rfl rfl
 . conv=>lhs;whnf
 . conv=>lhs;whnf;arg 1;whnf
 . conv=>lhs;whnf;arg 1;whnf
 . exact ⟨by kernel_rfl,by kernel_rfl⟩
 . rfl
|apply zBf rfl rfl
 . conv=>lhs;whnf
 . first | exact zFd | (conv=>lhs;whnf;arg 1;whnf)
 . first | exact fun _=>rfl | (intro _;kernel_rfl)
 . conv=>lhs;whnf
 . conv=>lhs;whnf;arg 1;whnf
 . conv=>lhs;whnf
|refine zZ (by conv=>lhs;whnf) ?_ ?_<;>intro hb
|exact trivial)
   all_goals first
    |exact zU (by omega)
    |exact (⟨by omega,by omega⟩:0<=(i:Int)/\(i:Int)<(aa.length:Int))
    |(refine ⟨by simp,?_,?_⟩<;>simp only [List.length_map,List.length_take,List.length_cons,List.length_nil,maxLen]<;>omega)
    |skip
   have et:(aa.take (i+1)).map mbOf=(aa.take i).map mbOf++[mbOf (gD aa i)]:=by
    rw [List.take_add_one,List.map_append,List.getElem?_eq_getElem hi,zBp hi];rfl
   refine zI (j':=j-1) (by omega) ⟨i+1,by omega,Sub.live ⟨rfl,rfl,rfl,rfl,rfl,rfl,rfl,trivial⟩ ⟨rfl,rfl,rfl,?_,?_,trivial⟩⟩
   . show some (Res.box _ [_,_,_,_,_,V.own 904 _ ((aa.take i).map mbOf++[mbOf (gD aa i)]),_])=some (Res.box _ [_,_,_,_,_,V.own 904 _ ((aa.take (i+1)).map mbOf),_])
     rw [et]
   . show some (Res.tok _ (((aa.take i).map mbOf).length+1))=some (Res.tok _ ((aa.take (i+1)).map mbOf).length)
     rw [et,List.length_append];rfl
 . have hi2:i=aa.length:=by omega
   have et:(aa.take i).map mbOf=aa.map mbOf:=by rw [hi2,List.take_length]
   repeat' (first
|apply zAx (VDf (sDfD 3 n im ds [] ((aa.take i).map mbOf) [])) rfl rfl
 . conv=>lhs;whnf;arg 2;whnf
 . repeat' (first | exact VLe.refl _ | exact VLe.nil _ | exact VLe.lit _ _ | exact VLe.own _ _ _ | apply VLe.agg | apply VLeL.cons | exact VLeL.nil)
|exact (K2 hi2 ‹_›).elim
|refine zA ?_
|refine zB ?_
|refine zH ?_
|apply aw_1
 conv=>whnf
 refine ⟨?_,trivial⟩
|apply s_1
 conv=>whnf;arg 1;arg 4;arg 3;whnf
 refine ⟨?_,?_⟩
|apply zS rfl rfl rfl
 . conv=>lhs;whnf
 . conv=>lhs;whnf;arg 1;whnf
 . conv=>lhs;whnf;arg 1;whnf
 . exact ⟨by kernel_rfl,by kernel_rfl⟩
 . rfl
|refine zZ (by conv=>lhs;whnf) ?_ ?_<;>intro hb
|refine zM ?_
|refine zO ?_
|refine zK rfl ?_
|refine zJ ?_
|apply zAb rfl
 . conv=>lhs;whnf;arg 2;whnf
 . conv=>lhs;whnf;arg 1;whnf
|exact trivial)
   rw [et];rfl
end
end
section
open Go.RowKit
noncomputable def HdG (al:List Tok) (u:PS) (k:Int) (n:List UInt8):Vst 74:=
 stS 74 [(1,.c (.int .i64 k)),(2,.bx 2 0),(4,.bx 4 0),(5,.bx 5 0)] [(pn 0,boxS al u),(2,.box 62 [.bx (pn 0) 0]),(4,.box 45 zDef),(5,.box 45 [.c (.int .i64 k),.c (.string (bs n)),.c (.slice none 0 0),.c (.slice none 0 0),.c (.slice none 0 0),.c (.slice none 0 0),.c (.slice none 0 0)])]
noncomputable def HdE (al:List Tok) (u:PS) (k:Int) (n:List UInt8) (im:List D):Vst 74:=
 stS 74 [(1,.c (.int .i64 k)),(2,.bx 2 0),(4,.bx 4 0),(5,.bx 5 0)] [(pn 0,boxS al u),(2,.box 62 [.bx (pn 0) 0]),(4,.box 45 zDef),(5,.box 45 [.c (.int .i64 k),.c (.string (bs n)),.sl 9 im,.c (.slice none 0 0),.c (.slice none 0 0),.c (.slice none 0 0),.c (.slice none 0 0)])]
attribute [local irreducible] wpList Calls Code.wp AW AWo OpOk seqK zz z8 loopK endK AC zl Yld Sub
attribute [local irreducible] ACB ACX ACE absLexG YldG YldU
section
variable {al:List Tok} (hal:al.length<=100000) (hkd:Kd al)
include hal hkd
theorem zKp (k:Int) (n:List UInt8) (im ds:List D) {u:PS} (hu:Sx al u) {pas:Nat->Prop} {w0:Sg} {w:World} {he:EN5.E w} {hp : ∀ k,k<EN5.G -> ¬ pas k} :
 AW (cxE EN5 Tryz.prog pas w0 w he hp (outS al VDf (defT k n im ds u))) zHT (HdD al u k n im ds) (zFc Tryz.prog Tryz.f52.results (outS al VDf (defT k n im ds u))):=by
 by_cases h3:k=3
 . subst h3;exact def_un hal n im ds hu
 by_cases h4:k=4
 . subst h4;exact def_mb hal hkd n im ds hu
 by_cases h5:k=5
 . subst h5;exact def_in hal hkd n im ds hu
 exact def_fd hal hkd k ⟨h3,h4,h5⟩ n im ds hu
theorem p_def (k:Int) {x:PS} (h:Sx al x):ACE EN5 Tryz.prog 52 [.bx (pn 0) 0,.c (.int .i64 k)] [boxS al x] (outS al VDf (sdefQ k x)):=by
 have hnm:=zDp h hal
 rcases hN:nameQ x with e1 | ⟨n,y⟩
 . rw [sdefQ,zw hN]
   rw [hN] at hnm
   refine zo (fn:=Tryz.f52) 74 Tryz.func52 rfl rfl ?_
   intro pas w0 w he hp
   repeat' (first
|apply s_pr (clS al) (zP al) rfl
 . conv=>lhs;whnf
 . conv=>lhs;whnf
 . rfl
 . conv=>lhs;whnf;arg 1;whnf
 . first | exact zu _ _
 . first | exact hnm
 . exact fun _=>rfl
 . first | (intro _ _;simp only [renL,renV,ren_cells];done) | exact fun _ _=>rfl
 refine fun ee hq => ?_
 change _=Out.die _
 rotate_left 1
 refine fun aa xx hq => ?_
 first | (replace hq:=zAM hq;obtain ⟨hq,rfl⟩:=hq) | (cases hq;have hq:=True.intro) | skip
|refine zA ?_
|refine zB ?_
|refine zH ?_
|apply aw_1
 conv=>whnf
 refine ⟨?_,trivial⟩
|apply s_1
 conv=>whnf;arg 1;arg 4;arg 3;whnf
 refine ⟨?_,?_⟩
|apply zAL rfl rfl rfl rfl
 . conv=>lhs;whnf;arg 1;whnf
 . rfl
|exact trivial)
   all_goals first
    |exact zA3 ‹_›
    |(cases hq;done)
 have hy:=(h.name hN).1
 rw [hN] at hnm
 have hm:=zEE hy hal
 have hno:=zG2 hy hal
 have hal2:=hy.len
 have hdl : ∀ {z:PS},Sx al z->ACE EN5 Tryz.prog 118 [.bx (pn 0) 0] [boxS al z] (outS al (fun l => .sl 108 l) (dirsQ z)):=fun h=>zGE hal hkd h
 by_cases F:k=1/\(hdT y).k=2/\(hdT y).s=zFu
 . have hk5:(hdT y).k≠5:=by rw [F.2.1];decide
   have hyc:=etaS1 hy hk5
   have hny:=(hy.nx hk5).1
   have hna:=p_names hal [38] hny
   have K1:((k==1)==true)=false->False:=fun h=>by rw [F.1] at h;cases h
   have K2:(((hdT y).k==2)==true)=false->False:=fun h=>by rw [F.2.1] at h;cases h
   have K3:((bs (hdT y).s).toList==(⟨#[105,109,112,108,101,109,101,110,116,115]⟩:ByteArray).toList)=false->False:=fun h=>zBY h F.2.2
   rcases hF:zBl [38] (nxT y) with e1 | ⟨im,z⟩
   . rw [sdefQ,zX hN,zBT,if_pos F,zw hF]
     rw [hF] at hna
     refine zo (fn:=Tryz.f52) 74 Tryz.func52 rfl rfl ?_
     intro pas w0 w he hp
     repeat' (first
|apply zAT (clS al) (zP al) rfl
 . conv=>lhs;whnf
 . conv=>lhs;whnf
 . first | rfl | assumption
 . conv=>lhs;whnf
 . rfl
 . conv=>lhs;whnf;arg 1;whnf
 . first | exact zu _ _
 . first | exact hm | exact hno
 . exact fun _=>rfl
 . exact fun _=>rfl
|apply zr rfl
 . conv=>lhs;whnf
 . conv=>lhs;whnf
 . first | rfl | assumption
|apply s_pr (clS al) (zP al) rfl
 . conv=>lhs;whnf
 . conv=>lhs;whnf
 . rfl
 . conv=>lhs;whnf;arg 1;whnf
 . first | exact zu _ _
 . first | exact hnm | exact hna
 . exact fun _=>rfl
 . first | (intro _ _;simp only [renL,renV,ren_cells];done) | exact fun _ _=>rfl
 refine fun ee hq => ?_
 change _=Out.die _
 rotate_left 1
 refine fun aa xx hq => ?_
 first | (replace hq:=zAM hq;obtain ⟨hq,rfl⟩:=hq) | (cases hq;have hq:=True.intro) | skip
|exact (K1 ‹_›).elim
|exact (K2 ‹_›).elim
|exact (K3 ‹_›).elim
|apply z7 4 (HdG al (nxT y) k n) rfl
|refine zCB ?_
|refine zA ?_
|refine zB ?_
|refine zH ?_
|apply aw_1
 conv=>whnf
 refine ⟨?_,trivial⟩
|apply zq rfl rfl
 . conv=>lhs;whnf
 . conv=>lhs;whnf
 . first | exact bT1 ‹_› | exact bT2 ‹_›
|apply s_1
 conv=>whnf;arg 1;arg 4;arg 3;whnf
 refine ⟨?_,?_⟩
|apply zAL rfl rfl rfl rfl
 . conv=>lhs;whnf;arg 1;whnf
 . rfl
|apply zS rfl rfl rfl
 . conv=>lhs;whnf
 . conv=>lhs;whnf;arg 1;whnf
 . conv=>lhs;whnf;arg 1;whnf
 . exact ⟨by kernel_rfl,by kernel_rfl⟩
 . rfl
|apply zL rfl
 . conv=>lhs;whnf
 . conv=>lhs;whnf
 . first | rfl | assumption
 . conv=>lhs;whnf;arg 2;whnf
|apply zF rfl
 . conv=>lhs;whnf
 . conv=>lhs;whnf
 . conv=>lhs;whnf;arg 2;whnf
|refine zZ (by conv=>lhs;whnf) ?_ ?_<;>intro hb
|exact trivial
|intro hg)
     all_goals first
      |exact zU (by omega)
      |exact Sub.live ⟨rfl,rfl,rfl,rfl,trivial⟩ ⟨congrArg (fun c=>some (Res.box _ c)) hyc,rfl,rfl,rfl,trivial⟩
      |exact zA3 ‹_›
      |(cases hq;done)
      |skip
   have hz:=(hny.names hF).1
   have hdi:=hdl hz
   rcases hD:dirsQ z with e1 | ⟨ds,u⟩
   . rw [sdefQ,zX hN,zBT,if_pos F,zX hF,zw hD]
     rw [hF] at hna
     rw [hD] at hdi
     refine zo (fn:=Tryz.f52) 74 Tryz.func52 rfl rfl ?_
     intro pas w0 w he hp
     repeat' (first
|apply zAT (clS al) (zP al) rfl
 . conv=>lhs;whnf
 . conv=>lhs;whnf
 . first | rfl | assumption
 . conv=>lhs;whnf
 . rfl
 . conv=>lhs;whnf;arg 1;whnf
 . first | exact zu _ _
 . first | exact hm | exact hno
 . exact fun _=>rfl
 . exact fun _=>rfl
|apply zr rfl
 . conv=>lhs;whnf
 . conv=>lhs;whnf
 . first | rfl | assumption
|apply s_pr (clS al) (zP al) rfl
 . conv=>lhs;whnf
 . conv=>lhs;whnf
 . rfl
 . conv=>lhs;whnf;arg 1;whnf
 . first | exact zu _ _
 . first | exact hnm | exact hna | exact hdi
 . exact fun _=>rfl
 . first | (intro _ _;simp only [renL,renV,ren_cells];done) | exact fun _ _=>rfl
 refine fun ee hq => ?_
 change _=Out.die _
 rotate_left 1
 refine fun aa xx hq => ?_
 first | (replace hq:=zAM hq;obtain ⟨hq,rfl⟩:=hq) | (cases hq;have hq:=True.intro) | skip
|exact (K1 ‹_›).elim
|exact (K2 ‹_›).elim
|exact (K3 ‹_›).elim
|apply z7 4 (HdG al (nxT y) k n) rfl
|apply z7 5 (HdE al z k n im) rfl
|refine zCB ?_
|refine zA ?_
|refine zB ?_
|refine zH ?_
|apply aw_1
 conv=>whnf
 refine ⟨?_,trivial⟩
|apply zq rfl rfl
 . conv=>lhs;whnf
 . conv=>lhs;whnf
 . first | exact bT1 ‹_› | exact bT2 ‹_›
|apply s_1
 conv=>whnf;arg 1;arg 4;arg 3;whnf
 refine ⟨?_,?_⟩
|apply zAL rfl rfl rfl rfl
 . conv=>lhs;whnf;arg 1;whnf
 . rfl
|apply zS rfl rfl rfl
 . conv=>lhs;whnf
 . conv=>lhs;whnf;arg 1;whnf
 . conv=>lhs;whnf;arg 1;whnf
 . exact ⟨by kernel_rfl,by kernel_rfl⟩
 . rfl
|apply zL rfl
 . conv=>lhs;whnf
 . conv=>lhs;whnf
 . first | rfl | assumption
 . conv=>lhs;whnf;arg 2;whnf
|apply zF rfl
 . conv=>lhs;whnf
 . conv=>lhs;whnf
 . conv=>lhs;whnf;arg 2;whnf
|refine zZ (by conv=>lhs;whnf) ?_ ?_<;>intro hb
|exact trivial
|intro hg)
     all_goals first
      |exact zU (by omega)
      |exact Sub.live ⟨rfl,rfl,rfl,rfl,trivial⟩ ⟨congrArg (fun c=>some (Res.box _ c)) hyc,rfl,rfl,rfl,trivial⟩
      |exact Sub.live ⟨rfl,rfl,rfl,rfl,trivial⟩ ⟨rfl,rfl,rfl,rfl,trivial⟩
      |exact zA3 ‹_›
      |(cases hq;done)
      |skip
   rw [show sdefQ k x=defT k n im ds u by rw [sdefQ,zX hN,zBT,if_pos F,zX hF,zX hD];rfl]
   rw [hF] at hna
   rw [hD] at hdi
   have hu:=(hz.dirs hD).1
   refine zo (fn:=Tryz.f52) 74 Tryz.func52 rfl rfl ?_
   intro pas w0 w he hp
   repeat' (first
|exact zKp hal hkd k n im ds hu
|apply zAT (clS al) (zP al) rfl
 . conv=>lhs;whnf
 . conv=>lhs;whnf
 . first | rfl | assumption
 . conv=>lhs;whnf
 . rfl
 . conv=>lhs;whnf;arg 1;whnf
 . first | exact zu _ _
 . first | exact hm | exact hno
 . exact fun _=>rfl
 . exact fun _=>rfl
|apply zr rfl
 . conv=>lhs;whnf
 . conv=>lhs;whnf
 . first | rfl | assumption
|apply s_pr (clS al) (zP al) rfl
 . conv=>lhs;whnf
 . conv=>lhs;whnf
 . rfl
 . conv=>lhs;whnf;arg 1;whnf
 . first | exact zu _ _
 . first | exact hnm | exact hna | exact hdi
 . exact fun _=>rfl
 . first | (intro _ _;simp only [renL,renV,ren_cells];done) | exact fun _ _=>rfl
 refine fun ee hq => ?_
 change _=Out.die _
 rotate_left 1
 refine fun aa xx hq => ?_
 first | (replace hq:=zAM hq;obtain ⟨hq,rfl⟩:=hq) | (cases hq;have hq:=True.intro) | skip
|exact (K1 ‹_›).elim
|exact (K2 ‹_›).elim
|exact (K3 ‹_›).elim
|apply z7 4 (HdG al (nxT y) k n) rfl
|apply z7 5 (HdE al z k n im) rfl
|apply z7 6 (HdD al u k n im ds) rfl
|refine zCB ?_
|refine zA ?_
|refine zB ?_
|refine zH ?_
|apply aw_1
 conv=>whnf
 refine ⟨?_,trivial⟩
|apply zq rfl rfl
 . conv=>lhs;whnf
 . conv=>lhs;whnf
 . first | exact bT1 ‹_› | exact bT2 ‹_›
|apply s_1
 conv=>whnf;arg 1;arg 4;arg 3;whnf
 refine ⟨?_,?_⟩
|apply zAL rfl rfl rfl rfl
 . conv=>lhs;whnf;arg 1;whnf
 . rfl
|apply zS rfl rfl rfl
 . conv=>lhs;whnf
 . conv=>lhs;whnf;arg 1;whnf
 . conv=>lhs;whnf;arg 1;whnf
 . exact ⟨by kernel_rfl,by kernel_rfl⟩
 . rfl
|apply zL rfl
 . conv=>lhs;whnf
 . conv=>lhs;whnf
 . first | rfl | assumption
 . conv=>lhs;whnf;arg 2;whnf
|apply zF rfl
 . conv=>lhs;whnf
 . conv=>lhs;whnf
 . conv=>lhs;whnf;arg 2;whnf
|refine zZ (by conv=>lhs;whnf) ?_ ?_<;>intro hb
|exact trivial
|intro hg)
   all_goals first
    |exact zU (by omega)
    |exact Sub.live ⟨rfl,rfl,rfl,rfl,trivial⟩ ⟨congrArg (fun c=>some (Res.box _ c)) hyc,rfl,rfl,rfl,trivial⟩
    |exact Sub.live ⟨rfl,rfl,rfl,rfl,trivial⟩ ⟨rfl,rfl,rfl,rfl,trivial⟩
    |(cases hq;done)
    |skip
 have KN:((k==1)==true)=true->(((hdT y).k==2)==true)=true->((bs (hdT y).s).toList==(⟨#[105,109,112,108,101,109,101,110,116,115]⟩:ByteArray).toList)=true->False:=fun h1 h2 h3 =>
  F ⟨by simpa using h1,by simpa using h2,zFB h3⟩
 have hdi:=hdl hy
 rcases hD:dirsQ y with e1 | ⟨ds,u⟩
 . rw [sdefQ,zX hN,zBT,if_neg F,zX (r:=.ok ([],y)) rfl,zw hD]
   rw [hD] at hdi
   refine zo (fn:=Tryz.f52) 74 Tryz.func52 rfl rfl ?_
   intro pas w0 w he hp
   repeat' (first
|apply zAT (clS al) (zP al) rfl
 . conv=>lhs;whnf
 . conv=>lhs;whnf
 . first | rfl | assumption
 . conv=>lhs;whnf
 . rfl
 . conv=>lhs;whnf;arg 1;whnf
 . first | exact zu _ _
 . first | exact hm | exact hno
 . exact fun _=>rfl
 . exact fun _=>rfl
|apply zr rfl
 . conv=>lhs;whnf
 . conv=>lhs;whnf
 . first | rfl | assumption
|apply s_pr (clS al) (zP al) rfl
 . conv=>lhs;whnf
 . conv=>lhs;whnf
 . rfl
 . conv=>lhs;whnf;arg 1;whnf
 . first | exact zu _ _
 . first | exact hnm | exact hdi
 . exact fun _=>rfl
 . first | (intro _ _;simp only [renL,renV,ren_cells];done) | exact fun _ _=>rfl
 refine fun ee hq => ?_
 change _=Out.die _
 rotate_left 1
 refine fun aa xx hq => ?_
 first | (replace hq:=zAM hq;obtain ⟨hq,rfl⟩:=hq) | (cases hq;have hq:=True.intro) | skip
|exact (KN ‹_› ‹_› ‹_›).elim
|apply z7 5 (HdE al y k n []) rfl
|refine zCB ?_
|refine zA ?_
|refine zB ?_
|refine zH ?_
|apply aw_1
 conv=>whnf
 refine ⟨?_,trivial⟩
|apply zq rfl rfl
 . conv=>lhs;whnf
 . conv=>lhs;whnf
 . first | exact bT1 ‹_› | exact bT2 ‹_›
|apply za rfl rfl
 . conv=>lhs;whnf
 . conv=>lhs;whnf
 . first | exact bF1 ‹_› | exact bF2 ‹_›
|apply s_1
 conv=>whnf;arg 1;arg 4;arg 3;whnf
 refine ⟨?_,?_⟩
|apply zAL rfl rfl rfl rfl
 . conv=>lhs;whnf;arg 1;whnf
 . rfl
|apply zS rfl rfl rfl
 . conv=>lhs;whnf
 . conv=>lhs;whnf;arg 1;whnf
 . conv=>lhs;whnf;arg 1;whnf
 . exact ⟨by kernel_rfl,by kernel_rfl⟩
 . rfl
|apply zL rfl
 . conv=>lhs;whnf
 . conv=>lhs;whnf
 . first | rfl | assumption
 . conv=>lhs;whnf;arg 2;whnf
|apply zF rfl
 . conv=>lhs;whnf
 . conv=>lhs;whnf
 . conv=>lhs;whnf;arg 2;whnf
|refine zZ (by conv=>lhs;whnf) ?_ ?_<;>intro hb
|exact trivial
|intro hg)
   all_goals first
    |exact zU (by omega)
    |exact (Sub.boxle (m:=5) (t:=45) (vs:=[.c (.int .i64 k),.c (.string (bs n)),.c (.slice none 0 0),.c (.slice none 0 0),.c (.slice none 0 0),.c (.slice none 0 0),.c (.slice none 0 0)]) (vs':=[.c (.int .i64 k),.c (.string (bs n)),.sl 9 [],.c (.slice none 0 0),.c (.slice none 0 0),.c (.slice none 0 0),.c (.slice none 0 0)]) rfl (.cons (.refl _) (.cons (.refl _) (.cons (.nil _) (.cons (.refl _) (.cons (.refl _) (.cons (.refl _) (.cons (.refl _) .nil)))))))).trans (Sub.live ⟨rfl,rfl,rfl,rfl,trivial⟩ ⟨rfl,rfl,rfl,rfl,trivial⟩)
    |exact zA3 ‹_›
    |(cases hq;done)
    |skip
 rw [show sdefQ k x=defT k n [] ds u by rw [sdefQ,zX hN,zBT,if_neg F,zX (r:=.ok ([],y)) rfl,zX hD];rfl]
 rw [hD] at hdi
 have hu:=(hy.dirs hD).1
 refine zo (fn:=Tryz.f52) 74 Tryz.func52 rfl rfl ?_
 intro pas w0 w he hp
 repeat' (first
|exact zKp hal hkd k n [] ds hu
|apply zAT (clS al) (zP al) rfl
 . conv=>lhs;whnf
 . conv=>lhs;whnf
 . first | rfl | assumption
 . conv=>lhs;whnf
 . rfl
 . conv=>lhs;whnf;arg 1;whnf
 . first | exact zu _ _
 . first | exact hm | exact hno
 . exact fun _=>rfl
 . exact fun _=>rfl
|apply zr rfl
 . conv=>lhs;whnf
 . conv=>lhs;whnf
 . first | rfl | assumption
|apply s_pr (clS al) (zP al) rfl
 . conv=>lhs;whnf
 . conv=>lhs;whnf
 . rfl
 . conv=>lhs;whnf;arg 1;whnf
 . first | exact zu _ _
 . first | exact hnm | exact hdi
 . exact fun _=>rfl
 . first | (intro _ _;simp only [renL,renV,ren_cells];done) | exact fun _ _=>rfl
 refine fun ee hq => ?_
 change _=Out.die _
 rotate_left 1
 refine fun aa xx hq => ?_
 first | (replace hq:=zAM hq;obtain ⟨hq,rfl⟩:=hq) | (cases hq;have hq:=True.intro) | skip
|exact (KN ‹_› ‹_› ‹_›).elim
|apply z7 5 (HdE al y k n []) rfl
|apply z7 6 (HdD al u k n [] ds) rfl
|refine zCB ?_
|refine zA ?_
|refine zB ?_
|refine zH ?_
|apply aw_1
 conv=>whnf
 refine ⟨?_,trivial⟩
|apply zq rfl rfl
 . conv=>lhs;whnf
 . conv=>lhs;whnf
 . first | exact bT1 ‹_› | exact bT2 ‹_›
|apply za rfl rfl
 . conv=>lhs;whnf
 . conv=>lhs;whnf
 . first | exact bF1 ‹_› | exact bF2 ‹_›
|apply s_1
 conv=>whnf;arg 1;arg 4;arg 3;whnf
 refine ⟨?_,?_⟩
|apply zAL rfl rfl rfl rfl
 . conv=>lhs;whnf;arg 1;whnf
 . rfl
|apply zS rfl rfl rfl
 . conv=>lhs;whnf
 . conv=>lhs;whnf;arg 1;whnf
 . conv=>lhs;whnf;arg 1;whnf
 . exact ⟨by kernel_rfl,by kernel_rfl⟩
 . rfl
|apply zL rfl
 . conv=>lhs;whnf
 . conv=>lhs;whnf
 . first | rfl | assumption
 . conv=>lhs;whnf;arg 2;whnf
|apply zF rfl
 . conv=>lhs;whnf
 . conv=>lhs;whnf
 . conv=>lhs;whnf;arg 2;whnf
|refine zZ (by conv=>lhs;whnf) ?_ ?_<;>intro hb
|exact trivial
|intro hg)
 all_goals first
  |exact zU (by omega)
  |exact (Sub.boxle (m:=5) (t:=45) (vs:=[.c (.int .i64 k),.c (.string (bs n)),.c (.slice none 0 0),.c (.slice none 0 0),.c (.slice none 0 0),.c (.slice none 0 0),.c (.slice none 0 0)]) (vs':=[.c (.int .i64 k),.c (.string (bs n)),.sl 9 [],.c (.slice none 0 0),.c (.slice none 0 0),.c (.slice none 0 0),.c (.slice none 0 0)]) rfl (.cons (.refl _) (.cons (.refl _) (.cons (.nil _) (.cons (.refl _) (.cons (.refl _) (.cons (.refl _) (.cons (.refl _) .nil)))))))).trans (Sub.live ⟨rfl,rfl,rfl,rfl,trivial⟩ ⟨rfl,rfl,rfl,rfl,trivial⟩)
  |exact Sub.live ⟨rfl,rfl,rfl,rfl,trivial⟩ ⟨rfl,rfl,rfl,rfl,trivial⟩
  |(cases hq;done)
  |skip
end
end
section
open Go.RowKit
attribute [local irreducible] wpList Calls Code.wp AW AWo OpOk seqK zz z8 loopK endK AC zl Yld Sub
attribute [local irreducible] ACB ACX ACE absLexG YldG YldU
theorem elemDf:zAD Tryz.prog 23=some (45,144):=by kernel_rfl
def zDoc:List V:=[.c (.slice none 0 0)]
noncomputable def VDc (d:D):V:=.agg (cellsV Tryz.prog 12 25 d)
noncomputable def HqS (al:List Tok) (z:PS) (acc:List D):Vst 47:=
 stS 47 [(0,.bx (pn 0) 0),(2,.bx 2 0),(3,.bx 3 0)] [(pn 0,boxS al z),(2,.box 25 zDoc),(3,.box 25 [.own 907 45 acc]),(907,.tok 45 acc.length)]
noncomputable def HqK (al:List Tok) (z:PS) (acc:List D) (k:Int):Vst 47:=
 stS 47 [(0,.bx (pn 0) 0),(2,.bx 2 0),(3,.bx 3 0),(4,.c (.int .i64 k))] [(pn 0,boxS al z),(2,.box 25 zDoc),(3,.box 25 [.own 907 45 acc]),(907,.tok 45 acc.length)]
theorem p_doc {al:List Tok} (hal:al.length<=100000) (hkd:Kd al) {x:PS} (h:Sx al x) (n:Nat) (hn:x.ts.length<n):ACE EN5 Tryz.prog 25 [.bx (pn 0) 0] [boxS al x] (outS al (fun l=>VDc (zEC l)) (sdocF n [] x)):=by
 have hxl:=h.len
 refine zo (fn:=Tryz.f25) 47 Tryz.func25 rfl rfl ?_
 intro pas w0 w he hp
 repeat' (first
|refine zA ?_
|refine zB ?_
|refine zH ?_
|apply aw_1
 conv=>whnf
 refine ⟨?_,trivial⟩
|apply s_1
 conv=>whnf;arg 1;arg 4;arg 3;whnf
 refine ⟨?_,?_⟩
|exact trivial)
 refine zg (Sub.ownF (m:=3) (q:=907) (i:=0) (e:=45) rfl (by decide) rfl rfl rfl) ?_
 refine zi (fun j st => ∃ z acc,Sx al z/\z.ts.length<j/\acc.length+z.ts.length<=x.ts.length/\sdocF n [] x=sdocF j acc z/\Sub (cxE EN5 Tryz.prog pas w0 w he hp (outS al (fun l=>VDc (zEC l)) (sdocF n [] x))) st (HqS al z acc)) n ⟨x,[],h,hn,by simp,rfl,?_⟩ ?_
 . exact Sub.live ⟨rfl,rfl,rfl,trivial⟩ ⟨rfl,rfl,rfl,rfl,trivial⟩
 rintro j st ⟨z,acc,hz,hzj,hzl,hI,hsub⟩
 refine zg hsub ?_
 clear hsub
 rw [hI]
 clear hI
 cases j with
 |zero=>omega
 |succ j =>
 have hno:=zG2 hz hal
 have hm:=zEE hz hal
 have hf3:=zCp hz hal 3
 have hf4:=zCp hz hal 4
 have hkf:=p_kindOf (hdT z).s
 have K0:acc.length≠0->(((acc.length:Int)==0)==false)=false->False:=fun h1 h2=>by simp at h2;exact h1 (by rw [h2];rfl)
 have K2:acc.length=0->(((acc.length:Int)==0)==false)=true->False:=fun h0 h2=>by rw [h0] at h2;cases h2
 by_cases hE:acc.length≠0/\(hdT z).k=5
 . have K1:((hdT z).k != 5)=true->False:=fun h=>by rw [hE.2] at h;cases h
   rw [sdocF,if_pos hE]
   repeat' (first
|apply zAx (VDc (zEC acc)) rfl rfl
 . conv=>lhs;whnf;arg 2;whnf
 . repeat' (first | exact VLe.refl _ | exact VLe.nil _ | exact VLe.lit _ _ | exact VLe.own _ _ _ | apply VLe.agg | apply VLeL.cons | exact VLeL.nil)
|apply zAT (clS al) (zP al) rfl
 . conv=>lhs;whnf
 . conv=>lhs;whnf
 . first | rfl | assumption
 . conv=>lhs;whnf
 . rfl
 . conv=>lhs;whnf;arg 1;whnf
 . first | exact zu _ _
 . first | exact hno
 . exact fun _=>rfl
 . exact fun _=>rfl
|apply zr rfl
 . conv=>lhs;whnf
 . conv=>lhs;whnf
 . first | rfl | assumption
|exact (K0 hE.1 ‹_›).elim
|exact (K1 ‹_›).elim
|refine zA ?_
|refine zB ?_
|refine zH ?_
|apply aw_1
 conv=>whnf
 refine ⟨?_,trivial⟩
|apply za rfl rfl
 . conv=>lhs;whnf
 . conv=>lhs;whnf
 . first | exact bF1 ‹_› | exact bF2 ‹_›
|apply s_1
 conv=>whnf;arg 1;arg 4;arg 3;whnf
 refine ⟨?_,?_⟩
|apply zS rfl rfl rfl
 . conv=>lhs;whnf
 . conv=>lhs;whnf;arg 1;whnf
 . conv=>lhs;whnf;arg 1;whnf
 . exact ⟨by kernel_rfl,by kernel_rfl⟩
 . rfl
|apply zL rfl
 . conv=>lhs;whnf
 . conv=>lhs;whnf
 . first | rfl | assumption
 . conv=>lhs;whnf;arg 2;whnf
|apply zF rfl
 . conv=>lhs;whnf
 . conv=>lhs;whnf
 . conv=>lhs;whnf;arg 2;whnf
|refine zZ (by conv=>lhs;whnf) ?_ ?_<;>intro hb
|refine zM ?_
|refine zK rfl ?_
|refine zJ ?_
|apply zAb rfl
 . conv=>lhs;whnf;arg 2;whnf
 . conv=>lhs;whnf;arg 1;whnf
|exact trivial
|intro hg)
   all_goals first
    |rfl
    |skip
 have KE:(((acc.length:Int)==0)==false)=true->((hdT z).k != 5)=false->False:=fun h1 h2=>hE ⟨fun e=>K2 e h1,by simpa using h2⟩
 rw [sdocF,if_neg hE]
 by_cases hw:(hdT z).k=2/\0<zBG (hdT z).s
 . rw [if_neg (show ¬ ¬ ((hdT z).k=2/\0<zBG (hdT z).s) from fun h=>h hw)]
   rw [show ((hdT z).k==2)=true by rw [hw.1];rfl] at hm
   have K6:(zBG (hdT z).s==0)=true->False:=fun h=>absurd (beq_iff_eq.1 h) (fun e=>by rw [e] at hw;exact absurd hw.2 (by decide))
   by_cases h64:64<=acc.length
   . have K8:decide ((acc.length:Int)>=64)=false->False:=fun h=>by simp at h;omega
     rw [if_pos h64]
     repeat' (first
|apply s_m (clS al) (zP al) rfl
 . conv=>lhs;whnf
 . conv=>lhs;whnf
 . rfl
 . conv=>lhs;whnf;arg 1;whnf
 . first | exact zu _ _
 . first | exact hno | exact hm
 . exact fun _=>rfl
 . exact fun _=>rfl
|apply zAT (clS al) (zP al) rfl
 . conv=>lhs;whnf
 . conv=>lhs;whnf
 . first | rfl | assumption
 . conv=>lhs;whnf
 . rfl
 . conv=>lhs;whnf;arg 1;whnf
 . first | exact zu _ _
 . first | exact hno | exact hm
 . exact fun _=>rfl
 . exact fun _=>rfl
|apply zr rfl
 . conv=>lhs;whnf
 . conv=>lhs;whnf
 . first | rfl | assumption
|apply zB8 [pn 0] rfl
 . conv=>lhs;whnf
 . first | exact hf4
 . decide
 . rfl
 . rfl
 change _=Out.die _
|exact (KE ‹_› ‹_›).elim
|exact (K6 ‹_›).elim
|exact (K8 ‹_›).elim
|refine zA ?_
|refine zB ?_
|refine zH ?_
|apply aw_1
 conv=>whnf
 refine ⟨?_,trivial⟩
|apply zq rfl rfl
 . conv=>lhs;whnf
 . conv=>lhs;whnf
 . first | exact bT1 ‹_› | exact bT2 ‹_›
|apply za rfl rfl
 . conv=>lhs;whnf
 . conv=>lhs;whnf
 . first | exact bF1 ‹_› | exact bF2 ‹_›
|apply s_1
 conv=>whnf;arg 1;arg 4;arg 3;whnf
 refine ⟨?_,?_⟩
|apply ze rfl
 . conv=>lhs;whnf
 . conv=>lhs;whnf
 . first | exact hkf
|apply zL rfl
 . conv=>lhs;whnf
 . conv=>lhs;whnf
 . first | rfl | assumption
 . conv=>lhs;whnf;arg 2;whnf
|apply zF rfl
 . conv=>lhs;whnf
 . conv=>lhs;whnf
 . conv=>lhs;whnf;arg 2;whnf
|refine zZ (by conv=>lhs;whnf) ?_ ?_<;>intro hb
|exact trivial
|intro hg)
     all_goals first
      |rfl
      |skip
   have K8:decide ((acc.length:Int)>=64)=true->False:=fun h=>by simp at h;omega
   rw [if_neg h64]
   have hk5:(hdT z).k≠5:=by rw [hw.1];decide
   have hyc:=etaS1 hz hk5
   have hny:=hz.nx hk5
   have hal2:=hz.len
   have hdf:=p_def hal hkd (zBG (hdT z).s) hny.1
   repeat' (first
|apply zBs 9 ([(1,[3])]) ([(4,[1000000]),(6,[907]),(8,[3])]) rfl (by kernel_rfl) (by kernel_rfl) (by kernel_rfl)
|apply zHK
|apply zHJ rfl
 . conv=>lhs;whnf
 . conv=>lhs;whnf;arg 2;whnf
|apply zIO rfl rfl
 . conv=>lhs;whnf
 . first | exact elemDf | (conv=>lhs;whnf;arg 1;whnf)
 . first | exact fun _=>rfl | (intro _;kernel_rfl)
 . conv=>lhs;whnf
 . rfl
 . conv=>lhs;whnf;arg 1;whnf
 . conv=>lhs;whnf
|apply zCQ rfl rfl rfl
 . conv=>lhs;whnf
 . rfl
 . conv=>lhs;whnf;arg 1;whnf
 . conv=>lhs;whnf;arg 1;whnf
 . exact ⟨by kernel_rfl,by kernel_rfl⟩
 . rfl
|exact Or.inl ⟨pn 0,_,rfl⟩
|refine Or.inr ?_
|apply g_pr (clS al) (zP al) (default:D) rfl
 . conv=>lhs;whnf
 . conv=>lhs;whnf
 . rfl
 . conv=>lhs;whnf;arg 1;whnf
 . first | exact zu _ _
 . first | exact hdf
 . exact fun _=>rfl
 . first | (intro _ _;simp only [renL,renV,ren_cells];done) | exact fun _ _=>rfl
 . rfl
 refine fun ee hq tm rs => ?_
 change _=Out.die _
 rotate_left 1
 refine fun aa xx hq => ?_
 first | (cases hq;have hq:=True.intro) | skip
 rotate_left 1
 refine fun ee hq => ?_
 first | (cases hq;done) | skip
|show inO _ _=true;rfl
|apply zDx [aa] rfl rfl
 . conv=>lhs;whnf
 . first | exact elemDf | (conv=>lhs;whnf;arg 1;whnf)
 . rfl
 . rfl
 . repeat' (first | exact trivial | apply And.intro | rfl)
|apply zDx [default] rfl rfl
 . conv=>lhs;whnf
 . first | exact elemDf | (conv=>lhs;whnf;arg 1;whnf)
 . rfl
 . rfl
 . repeat' (first | exact trivial | apply And.intro | rfl)
|apply s_m (clS al) (zP al) rfl
 . conv=>lhs;whnf
 . conv=>lhs;whnf
 . rfl
 . conv=>lhs;whnf;arg 1;whnf
 . first | exact zu _ _
 . first | exact hno | exact hm
 . exact fun _=>rfl
 . exact fun _=>rfl
|apply zAT (clS al) (zP al) rfl
 . conv=>lhs;whnf
 . conv=>lhs;whnf
 . first | rfl | assumption
 . conv=>lhs;whnf
 . rfl
 . conv=>lhs;whnf;arg 1;whnf
 . first | exact zu _ _
 . first | exact hno | exact hm
 . exact fun _=>rfl
 . exact fun _=>rfl
|apply zr rfl
 . conv=>lhs;whnf
 . conv=>lhs;whnf
 . first | rfl | assumption
|exact (KE ‹_› ‹_›).elim
|exact (K6 ‹_›).elim
|exact (K8 ‹_›).elim
|apply z7 6 (HqK al z acc (zBG (hdT z).s)) rfl
|apply z7 11 (HqK al (nxT z) acc (zBG (hdT z).s)) rfl
|refine zCB ?_
|refine zA ?_
|refine zB ?_
|refine zH ?_
|refine zR ?_
|apply aw_1
 conv=>whnf
 refine ⟨?_,trivial⟩
|apply zq rfl rfl
 . conv=>lhs;whnf
 . conv=>lhs;whnf
 . first | exact bT1 ‹_› | exact bT2 ‹_›
|apply za rfl rfl
 . conv=>lhs;whnf
 . conv=>lhs;whnf
 . first | exact bF1 ‹_› | exact bF2 ‹_›
|apply s_1
 conv=>whnf;arg 1;arg 4;arg 3;whnf
 refine ⟨?_,?_⟩
|apply ze rfl
 . conv=>lhs;whnf
 . conv=>lhs;whnf
 . first | exact hkf
|apply zS rfl rfl rfl
 . conv=>lhs;whnf
 . conv=>lhs;whnf;arg 1;whnf
 . conv=>lhs;whnf;arg 1;whnf
 . exact ⟨by kernel_rfl,by kernel_rfl⟩
 . rfl
|apply zL rfl
 . conv=>lhs;whnf
 . conv=>lhs;whnf
 . first | rfl | assumption
 . conv=>lhs;whnf;arg 2;whnf
|apply zF rfl
 . conv=>lhs;whnf
 . conv=>lhs;whnf
 . conv=>lhs;whnf;arg 2;whnf
|refine zZ (by conv=>lhs;whnf) ?_ ?_<;>intro hb
|exact trivial
|intro hg)
   all_goals first
    |exact zU (by omega)
    |exact Sub.live ⟨rfl,rfl,rfl,rfl,trivial⟩ ⟨congrArg (fun c=>some (Res.box _ c)) hyc,rfl,rfl,rfl,trivial⟩
    |exact Sub.live ⟨rfl,rfl,rfl,rfl,trivial⟩ ⟨rfl,rfl,rfl,rfl,trivial⟩
    |(refine ⟨by simp,?_,?_⟩<;>simp only [List.length_cons,List.length_nil,maxLen]<;>omega)
    |(rw [zw hq];rfl)
    |skip
   all_goals
    have hx:=hny.1.sdef hq
    refine zI (j':=j) (by omega) ⟨xx,acc++[aa],hx.1,by omega,by rw [List.length_append];simp only [List.length_cons,List.length_nil];omega,by rw [zX hq],Sub.live ⟨rfl,rfl,rfl,trivial⟩ ⟨rfl,rfl,rfl,?_,trivial⟩⟩
    show some (Res.tok _ (acc.length+1))=some (Res.tok _ (acc++[aa]).length)
    rw [List.length_append];rfl
 rw [if_pos hw]
 by_cases hk:(hdT z).k=2
 . have hk0:zBG (hdT z).s=0:=by have:=(kindS_le (hdT z).s).1;have h2 : ¬ 0<zBG (hdT z).s:=fun h=>hw ⟨hk,h⟩;omega
   rw [hk0] at hkf
   rw [show ((hdT z).k==2)=true by rw [hk];rfl] at hm
   repeat' (first
|apply s_m (clS al) (zP al) rfl
 . conv=>lhs;whnf
 . conv=>lhs;whnf
 . rfl
 . conv=>lhs;whnf;arg 1;whnf
 . first | exact zu _ _
 . first | exact hno | exact hm
 . exact fun _=>rfl
 . exact fun _=>rfl
|apply zAT (clS al) (zP al) rfl
 . conv=>lhs;whnf
 . conv=>lhs;whnf
 . first | rfl | assumption
 . conv=>lhs;whnf
 . rfl
 . conv=>lhs;whnf;arg 1;whnf
 . first | exact zu _ _
 . first | exact hno | exact hm
 . exact fun _=>rfl
 . exact fun _=>rfl
|apply zr rfl
 . conv=>lhs;whnf
 . conv=>lhs;whnf
 . first | rfl | assumption
|apply zB8 [pn 0] rfl
 . conv=>lhs;whnf
 . first | exact hf3
 . decide
 . rfl
 . rfl
 change _=Out.die _
|exact (KE ‹_› ‹_›).elim
|refine zA ?_
|refine zB ?_
|refine zH ?_
|apply aw_1
 conv=>whnf
 refine ⟨?_,trivial⟩
|apply zq rfl rfl
 . conv=>lhs;whnf
 . conv=>lhs;whnf
 . first | exact bT1 ‹_› | exact bT2 ‹_›
|apply za rfl rfl
 . conv=>lhs;whnf
 . conv=>lhs;whnf
 . first | exact bF1 ‹_› | exact bF2 ‹_›
|apply s_1
 conv=>whnf;arg 1;arg 4;arg 3;whnf
 refine ⟨?_,?_⟩
|apply ze rfl
 . conv=>lhs;whnf
 . conv=>lhs;whnf
 . first | exact hkf
|apply zL rfl
 . conv=>lhs;whnf
 . conv=>lhs;whnf
 . first | rfl | assumption
 . conv=>lhs;whnf;arg 2;whnf
|apply zF rfl
 . conv=>lhs;whnf
 . conv=>lhs;whnf
 . conv=>lhs;whnf;arg 2;whnf
|refine zZ (by conv=>lhs;whnf) ?_ ?_<;>intro hb
|exact trivial
|intro hg)
   all_goals first
    |rfl
    |skip
 . rw [show ((hdT z).k==2)=false by simpa using hk] at hm
   repeat' (first
|apply s_m (clS al) (zP al) rfl
 . conv=>lhs;whnf
 . conv=>lhs;whnf
 . rfl
 . conv=>lhs;whnf;arg 1;whnf
 . first | exact zu _ _
 . first | exact hno | exact hm
 . exact fun _=>rfl
 . exact fun _=>rfl
|apply zAT (clS al) (zP al) rfl
 . conv=>lhs;whnf
 . conv=>lhs;whnf
 . first | rfl | assumption
 . conv=>lhs;whnf
 . rfl
 . conv=>lhs;whnf;arg 1;whnf
 . first | exact zu _ _
 . first | exact hno | exact hm
 . exact fun _=>rfl
 . exact fun _=>rfl
|apply zr rfl
 . conv=>lhs;whnf
 . conv=>lhs;whnf
 . first | rfl | assumption
|apply zB8 [pn 0] rfl
 . conv=>lhs;whnf
 . first | exact hf3
 . decide
 . rfl
 . rfl
 change _=Out.die _
|exact (KE ‹_› ‹_›).elim
|refine zA ?_
|refine zB ?_
|refine zH ?_
|apply aw_1
 conv=>whnf
 refine ⟨?_,trivial⟩
|apply zq rfl rfl
 . conv=>lhs;whnf
 . conv=>lhs;whnf
 . first | exact bT1 ‹_› | exact bT2 ‹_›
|apply za rfl rfl
 . conv=>lhs;whnf
 . conv=>lhs;whnf
 . first | exact bF1 ‹_› | exact bF2 ‹_›
|apply s_1
 conv=>whnf;arg 1;arg 4;arg 3;whnf
 refine ⟨?_,?_⟩
|apply zL rfl
 . conv=>lhs;whnf
 . conv=>lhs;whnf
 . first | rfl | assumption
 . conv=>lhs;whnf;arg 2;whnf
|apply zF rfl
 . conv=>lhs;whnf
 . conv=>lhs;whnf
 . conv=>lhs;whnf;arg 2;whnf
|refine zZ (by conv=>lhs;whnf) ?_ ?_<;>intro hb
|exact trivial
|intro hg)
   all_goals first
    |rfl
    |skip
end
end Go.Proofs.YthppafnlnnpciaaGreatDoor
