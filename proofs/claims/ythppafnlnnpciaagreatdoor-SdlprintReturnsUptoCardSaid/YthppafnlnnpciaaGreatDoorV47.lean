import Derived.Test.YthppafnlnnpciaaGreatDoorV46
set_option maxHeartbeats 8000000
set_option maxRecDepth 100000
set_option linter.unusedVariables false
set_option linter.unusedSimpArgs false
namespace Go.Proofs.YthppafnlnnpciaaGreatDoor
section
open Go.RowKit
attribute [local irreducible] wpList Calls Code.wp AW AWo OpOk seqK zz z8 loopK endK AC zl Yld Sub
attribute [local irreducible] ACB ACX ACE absLexG YldG YldU
theorem zH2 {al:List Tok} (hal:al.length<=100000) (hkd:Kd al) {x:PS} (h:Sx al x):ACE EN5 Tryz.prog 176 [.bx (pn 0) 0] [boxS al x] (outS al VV (zAd x)):=by
 have hv:=zJC hal hkd 25 1 ⟨x.ts,x.vr,0⟩ ⟨h.en,h.vr,h.sf⟩ (by omega) (by omega)
 have e:zAd x=valueQ 25 1 ⟨x.ts,x.vr,0⟩:=rfl
 rw [e]
 refine zo (fn:=Tryz.f176) 7 Tryz.func176 rfl rfl ?_
 intro pas w0 w he hp
 repeat' (first
|apply zGu [3,pn 0] rfl
 . conv=>lhs;whnf
 . conv=>lhs;whnf
 . first | exact hv
 . decide
 . rfl
 . rfl
 refine fun ee hq => ?_
 change _=Out.die _
 rotate_left 1
 refine fun aa xx hq => ?_
 first | (cases hq;have hq:=True.intro) | skip
|refine zA ?_
|refine zB ?_
|refine zH ?_
|apply aw_1
 conv=>whnf
 refine ⟨?_,trivial⟩
|apply s_1
 conv=>whnf;arg 1;arg 4;arg 3;whnf
 refine ⟨?_,?_⟩
|apply zS rfl rfl rfl
 . conv=>lhs;whnf
 . conv=>lhs;whnf;arg 1;whnf
 . conv=>lhs;whnf;arg 1;whnf
 . exact ⟨by kernel_rfl,by kernel_rfl⟩
 . rfl
|apply zAb rfl
 . conv=>lhs;whnf;arg 2;whnf
 . conv=>lhs;whnf;arg 1;whnf
|exact trivial)
 all_goals (rw [hq];rfl)
def bsK (al:List Tok) (B T:List D->Res) (acc:List D) (x:PS):List Res:=[.box 62 [.bx (pn 2) 0],B acc,boxS al x,T acc]
def elK (el:PS->PR D) (acc:List D) (x:PS):Except (Nat × Int) (Unit × (List D × PS)):=match el x with | .ok (a,y) => .ok ((),(acc++[a],y)) | .error e => .error e
def mnK (r:PR (List D)):Except (Nat × Int) (Unit × (List D × PS)):=match r with | .ok (l,y) => .ok ((),(l,y)) | .error e => .error e
def outK (al:List Tok) (B T:List D->Res) (r:Except (Nat × Int) (Unit × (List D × PS))):Out:=zH4 (fun p=>bsK al B T p.1 p.2) (fun _=>V.tup []) zE9 r
def CK (al:List Tok) (B T:List D->Res) (f:FuncId) (cv:List V) (el:PS->PR D):Prop:=∀ acc x,Sx al x->acc.length+x.ts.length<=100000->ACE EN5 Tryz.prog f cv (bsK al B T acc x) (outK al B T (elK el acc x))
theorem out_err {α:Type} {al:List Tok} {B T:List D->Res} {i e:Nat × Int} (h:(Except.error i:PR α) = .error e):outK al B T (mnK (.error i))=Out.die (zE9 e):=by
 injection h with h;rw [<- h];rfl
structure RenK (cv:List V) (B T:List D->Res):Prop where
 cv:renL (φin [pn 0,pn 1,pn 2,pn 3]) cv=cv
 b : ∀ acc,renR (φin [pn 0,pn 1,pn 2,pn 3]) (B acc)=B acc
 bo : ∀ acc,renR (φout [pn 0,pn 1,pn 2,pn 3]) (B acc)=B acc
 t : ∀ acc,renR (φin [pn 0,pn 1,pn 2,pn 3]) (T acc)=T acc
 to6 : ∀ acc,renR (φout [pn 0,pn 1,pn 2,pn 3]) (T acc)=T acc
noncomputable def HbK (al:List Tok) (B T:List D->Res) (f:FuncId) (cv:List V) (e:List UInt8) (most:Nat) (acc:List D) (z:PS):Vst 30:=
 stS 30 [(0,.bx (pn 2) 0),(1,.c (.string (bs e))),(2,.c (.int .i64 (most:Int))),(3,.clo f cv),(8,.c (.int .i64 (acc.length:Int)))] [(pn 0,.box 62 [.bx (pn 2) 0]),(pn 1,B acc),(pn 2,boxS al z),(pn 3,T acc)]
theorem zG3 {al:List Tok} (hal:al.length<=100000) {B T:List D->Res} {f:FuncId} {cv:List V} {el:PS->PR D} (hent:zB6 Tryz.prog f=true) (hR:RenK cv B T) (hc:CK al B T f cv el)
 (hno : ∀ x,(hdT x).k≠2->el x = .error ((hdT x).i,3)) (hls : ∀ {x y a},Sx al x->el x = .ok (a,y)->Sx al y/\y.ts.length<x.ts.length) (e:List UInt8) (most n:Nat) {x:PS} (h:Sx al x) (hn:x.ts.length<=n) :
 ACE EN5 Tryz.prog 121 [.bx (pn 2) 0,.c (.string (bs e)),.c (.int .i64 (most:Int)),.clo f cv] (bsK al B T [] x) (outK al B T (mnK (manyF el e most n [] x))):=by
 have hxl:=h.len
 refine zo (fn:=Tryz.f121) 30 Tryz.func121 rfl rfl ?_
 intro pas w0 w he hp
 repeat' (first
|refine zA ?_
|refine zB ?_
|refine zH ?_
|apply aw_1
 conv=>whnf
 refine ⟨?_,trivial⟩
|apply s_1
 conv=>whnf;arg 1;arg 4;arg 3;whnf
 refine ⟨?_,?_⟩
|exact trivial)
 refine zi (fun j st => ∃ z acc,Sx al z/\z.ts.length<=j/\acc.length+z.ts.length<=x.ts.length/\manyF el e most n [] x=manyF el e most j acc z/\Sub (cxE EN5 Tryz.prog pas w0 w he hp (outK al B T (mnK (manyF el e most n [] x)))) st (HbK al B T f cv e most acc z)) n ⟨x,[],h,hn,by simp,rfl,?_⟩ ?_
 . exact Sub.live ⟨rfl,rfl,rfl,rfl,rfl,trivial⟩ ⟨rfl,rfl,rfl,rfl,trivial⟩
 rintro j st ⟨z,acc,hz,hzj,hzl,hI,hsub⟩
 refine zg hsub ?_
 clear hsub
 rw [hI]
 clear hI
 have hzp:=hz.pos
 cases j with
 |zero=>omega
 |succ j =>
 have K0:acc.length≠0->(((acc.length:Int)==0)==false)=false->False:=fun h1 h2=>by simp at h2;exact h1 (by rw [h2];rfl)
 by_cases hE:acc.length≠0/\isS z e=true
 . have ha:=zFI hz hal hE.2
   have K1:(((acc.length:Int)==0)==false)=false->False:=K0 hE.1
   rw [manyF,if_pos hE]
   repeat' (first
|apply zAT (clS al) (zP al) rfl
 . conv=>lhs;whnf
 . conv=>lhs;whnf
 . first | rfl | assumption
 . conv=>lhs;whnf
 . rfl
 . conv=>lhs;whnf;arg 1;whnf
 . first | exact zu _ _
 . first | exact ha
 . exact fun _=>rfl
 . exact fun _=>rfl
|apply zr rfl
 . conv=>lhs;whnf
 . conv=>lhs;whnf
 . first | rfl | assumption
|exact (K1 ‹_›).elim
|refine zA ?_
|refine zB ?_
|refine zH ?_
|apply aw_1
 conv=>whnf
 refine ⟨?_,trivial⟩
|apply za rfl rfl
 . conv=>lhs;whnf
 . conv=>lhs;whnf
 . first | exact bF1 ‹_› | exact bF2 ‹_›
|apply s_1
 conv=>whnf;arg 1;arg 4;arg 3;whnf
 refine ⟨?_,?_⟩
|apply zL rfl
 . conv=>lhs;whnf
 . conv=>lhs;whnf
 . first | rfl | assumption
 . conv=>lhs;whnf;arg 2;whnf
|apply zF rfl
 . conv=>lhs;whnf
 . conv=>lhs;whnf
 . conv=>lhs;whnf;arg 2;whnf
|refine zM ?_
|refine zK rfl ?_
|refine zJ ?_
|apply zCu rfl
|refine ⟨_,by conv=>lhs;whnf;arg 2;whnf,?_⟩;conv=>rhs;whnf
|exact trivial
|intro hg)
   exact ⟨rfl,rfl,rfl,rfl,trivial⟩
 rw [manyF,if_neg hE]
 have hr:=p_room hz hal acc.length most
 have hm:=zEE hz hal
 have hf:=zCp hz hal 3
 have hcl:=hc acc z hz (by omega)
 have K2:acc.length=0->(((acc.length:Int)==0)==false)=true->False:=fun h0 h2=>by rw [h0] at h2;cases h2
 by_cases hL:(hdT z).k=2/\most<=acc.length
 . rw [if_pos hL]
   rw [zHw,if_pos hL] at hr
   by_cases h0:acc.length=0
   . repeat' (first
|apply s_pr (clS al) (zP al) rfl
 . conv=>lhs;whnf
 . conv=>lhs;whnf
 . rfl
 . conv=>lhs;whnf;arg 1;whnf
 . first | exact zu _ _
 . first | exact hr
 . exact fun _=>rfl
 . first | (intro _ _;simp only [renL,renV,ren_cells];done) | exact fun _ _=>rfl
 refine fun ee hq => ?_
 change _=Out.die _
 rotate_left 1
 refine fun aa xx hq => ?_
 first | (replace hq:=zAM hq;obtain ⟨hq,rfl⟩:=hq) | (cases hq;have hq:=True.intro) | skip
|exact (K2 h0 ‹_›).elim
|refine zA ?_
|refine zB ?_
|refine zH ?_
|apply aw_1
 conv=>whnf
 refine ⟨?_,trivial⟩
|apply zq rfl rfl
 . conv=>lhs;whnf
 . conv=>lhs;whnf
 . first | exact bT1 ‹_› | exact bT2 ‹_›
|apply s_1
 conv=>whnf;arg 1;arg 4;arg 3;whnf
 refine ⟨?_,?_⟩
|apply zr rfl
 . conv=>lhs;whnf
 . conv=>lhs;whnf
 . first | rfl | assumption
|apply zF rfl
 . conv=>lhs;whnf
 . conv=>lhs;whnf
 . conv=>lhs;whnf;arg 2;whnf
|exact trivial
|intro hg)
     all_goals first
      |(cases hq;done)
      |exact out_err ‹_›
   . have hs:isS z e=false:=by cases hs:isS z e with | false=>rfl | true=>exact (hE ⟨h0,hs⟩).elim
     have ha:=zDq hz hal hs
     repeat' (first
|apply zAT (clS al) (zP al) rfl
 . conv=>lhs;whnf
 . conv=>lhs;whnf
 . first | rfl | assumption
 . conv=>lhs;whnf
 . rfl
 . conv=>lhs;whnf;arg 1;whnf
 . first | exact zu _ _
 . first | exact ha
 . exact fun _=>rfl
 . exact fun _=>rfl
|apply zr rfl
 . conv=>lhs;whnf
 . conv=>lhs;whnf
 . first | rfl | assumption
|apply s_pr (clS al) (zP al) rfl
 . conv=>lhs;whnf
 . conv=>lhs;whnf
 . rfl
 . conv=>lhs;whnf;arg 1;whnf
 . first | exact zu _ _
 . first | exact hr
 . exact fun _=>rfl
 . first | (intro _ _;simp only [renL,renV,ren_cells];done) | exact fun _ _=>rfl
 refine fun ee hq => ?_
 change _=Out.die _
 rotate_left 1
 refine fun aa xx hq => ?_
 first | (replace hq:=zAM hq;obtain ⟨hq,rfl⟩:=hq) | (cases hq;have hq:=True.intro) | skip
|exact (K0 h0 ‹_›).elim
|refine zA ?_
|refine zB ?_
|refine zH ?_
|apply aw_1
 conv=>whnf
 refine ⟨?_,trivial⟩
|apply za rfl rfl
 . conv=>lhs;whnf
 . conv=>lhs;whnf
 . first | exact bF1 ‹_› | exact bF2 ‹_›
|apply s_1
 conv=>whnf;arg 1;arg 4;arg 3;whnf
 refine ⟨?_,?_⟩
|apply zL rfl
 . conv=>lhs;whnf
 . conv=>lhs;whnf
 . first | rfl | assumption
 . conv=>lhs;whnf;arg 2;whnf
|apply zF rfl
 . conv=>lhs;whnf
 . conv=>lhs;whnf
 . conv=>lhs;whnf;arg 2;whnf
|exact trivial
|intro hg)
     all_goals first
      |(cases hq;done)
      |exact out_err ‹_›
 rw [if_neg hL]
 rw [zHw,if_neg hL] at hr
 by_cases hk:(hdT z).k=2
 . rw [show ((hdT z).k==2)=true by rw [hk];rfl] at hm
   by_cases h0:acc.length=0
   . repeat' (first
|apply s_m (clS al) (zP al) rfl
 . conv=>lhs;whnf
 . conv=>lhs;whnf
 . rfl
 . conv=>lhs;whnf;arg 1;whnf
 . first | exact zu _ _
 . first | exact hm
 . exact fun _=>rfl
 . exact fun _=>rfl
|apply zr rfl
 . conv=>lhs;whnf
 . conv=>lhs;whnf
 . first | rfl | assumption
|apply s_pr (clS al) (zP al) rfl
 . conv=>lhs;whnf
 . conv=>lhs;whnf
 . rfl
 . conv=>lhs;whnf;arg 1;whnf
 . first | exact zu _ _
 . first | exact hr
 . exact fun _=>rfl
 . first | (intro _ _;simp only [renL,renV,ren_cells];done) | exact fun _ _=>rfl
 refine fun ee hq => ?_
 change _=Out.die _
 rotate_left 1
 refine fun aa xx hq => ?_
 first | (replace hq:=zAM hq;obtain ⟨hq,rfl⟩:=hq) | (cases hq;have hq:=True.intro) | skip
|exact (K2 h0 ‹_›).elim
|refine zA ?_
|refine zB ?_
|refine zH ?_
|apply aw_1
 conv=>whnf
 refine ⟨?_,trivial⟩
|apply zq rfl rfl
 . conv=>lhs;whnf
 . conv=>lhs;whnf
 . first | exact bT1 ‹_› | exact bT2 ‹_›
|apply s_1
 conv=>whnf;arg 1;arg 4;arg 3;whnf
 refine ⟨?_,?_⟩
|apply zF rfl
 . conv=>lhs;whnf
 . conv=>lhs;whnf
 . conv=>lhs;whnf;arg 2;whnf
|exact trivial
|intro hg)
     all_goals first
      |(cases hq;done)
      |skip
     refine zGu [pn 0,pn 1,pn 2,pn 3] rfl rfl (if_pos hent) hcl (by decide) hR.cv ?_ ?_ ?_
     . show [_,some (renR (φin [pn 0,pn 1,pn 2,pn 3]) (B acc)),_,some (renR (φin [pn 0,pn 1,pn 2,pn 3]) (T acc))]=_
       rw [hR.b,hR.t];rfl
     . intro ee hq
       show outK al B T (mnK (thenQ (el z) fun a y=>manyF el e most j (acc++[a]) y))=Out.die (zE9 ee)
       unfold elK at hq
       cases hel:el z with
       |error e2=>rw [hel] at hq;injection hq with hq;rw [<- hq];rfl
       |ok p=>rw [hel] at hq;cases hq
     . rintro ⟨⟩ ⟨acc2,y⟩ hq
       obtain ⟨a,hel,rfl⟩ : ∃ a,el z = .ok (a,y)/\acc2=acc++[a]:=by
        unfold elK at hq
        cases hel:el z with
        |error e2=>rw [hel] at hq;cases hq
        |ok p=>obtain ⟨a,y2⟩:=p;rw [hel] at hq;cases hq;exact ⟨a,rfl,rfl⟩
       have hl:=hls hz hel
       repeat' (first
|refine zA ?_
|refine zB ?_
|refine zH ?_
|refine zR ?_
|apply s_1
 conv=>whnf;arg 1;arg 4;arg 3;whnf
 refine ⟨?_,?_⟩
|exact trivial)
       all_goals first
        |exact zU (by omega)
        |skip
       refine zI (j':=j) (by omega) ⟨y,acc++[a],hl.1,by omega,by rw [List.length_append];simp only [List.length_cons,List.length_nil];omega,by rw [hel];rfl,Sub.live ⟨rfl,rfl,rfl,rfl,?_,trivial⟩ ⟨rfl,congrArg some (hR.bo _),rfl,congrArg some (hR.to6 _),trivial⟩⟩
       show V.c (.int .i64 ((acc.length:Int)+1))=V.c (.int .i64 ((acc++[a]).length:Int))
       rw [List.length_append];rfl
   . have hs:isS z e=false:=by cases hs:isS z e with | false=>rfl | true=>exact (hE ⟨h0,hs⟩).elim
     have ha:=zDq hz hal hs
     repeat' (first
|apply s_m (clS al) (zP al) rfl
 . conv=>lhs;whnf
 . conv=>lhs;whnf
 . rfl
 . conv=>lhs;whnf;arg 1;whnf
 . first | exact zu _ _
 . first | exact ha | exact hm
 . exact fun _=>rfl
 . exact fun _=>rfl
|apply zAT (clS al) (zP al) rfl
 . conv=>lhs;whnf
 . conv=>lhs;whnf
 . first | rfl | assumption
 . conv=>lhs;whnf
 . rfl
 . conv=>lhs;whnf;arg 1;whnf
 . first | exact zu _ _
 . first | exact ha | exact hm
 . exact fun _=>rfl
 . exact fun _=>rfl
|apply zr rfl
 . conv=>lhs;whnf
 . conv=>lhs;whnf
 . first | rfl | assumption
|apply s_pr (clS al) (zP al) rfl
 . conv=>lhs;whnf
 . conv=>lhs;whnf
 . rfl
 . conv=>lhs;whnf;arg 1;whnf
 . first | exact zu _ _
 . first | exact hr
 . exact fun _=>rfl
 . first | (intro _ _;simp only [renL,renV,ren_cells];done) | exact fun _ _=>rfl
 refine fun ee hq => ?_
 change _=Out.die _
 rotate_left 1
 refine fun aa xx hq => ?_
 first | (replace hq:=zAM hq;obtain ⟨hq,rfl⟩:=hq) | (cases hq;have hq:=True.intro) | skip
|exact (K0 h0 ‹_›).elim
|refine zA ?_
|refine zB ?_
|refine zH ?_
|apply aw_1
 conv=>whnf
 refine ⟨?_,trivial⟩
|apply za rfl rfl
 . conv=>lhs;whnf
 . conv=>lhs;whnf
 . first | exact bF1 ‹_› | exact bF2 ‹_›
|apply s_1
 conv=>whnf;arg 1;arg 4;arg 3;whnf
 refine ⟨?_,?_⟩
|apply zL rfl
 . conv=>lhs;whnf
 . conv=>lhs;whnf
 . first | rfl | assumption
 . conv=>lhs;whnf;arg 2;whnf
|apply zF rfl
 . conv=>lhs;whnf
 . conv=>lhs;whnf
 . conv=>lhs;whnf;arg 2;whnf
|exact trivial
|intro hg)
     all_goals first
      |(cases hq;done)
      |skip
     refine zGu [pn 0,pn 1,pn 2,pn 3] rfl rfl (if_pos hent) hcl (by decide) hR.cv ?_ ?_ ?_
     . show [_,some (renR (φin [pn 0,pn 1,pn 2,pn 3]) (B acc)),_,some (renR (φin [pn 0,pn 1,pn 2,pn 3]) (T acc))]=_
       rw [hR.b,hR.t];rfl
     . intro ee hq
       show outK al B T (mnK (thenQ (el z) fun a y=>manyF el e most j (acc++[a]) y))=Out.die (zE9 ee)
       unfold elK at hq
       cases hel:el z with
       |error e2=>rw [hel] at hq;injection hq with hq;rw [<- hq];rfl
       |ok p=>rw [hel] at hq;cases hq
     . rintro ⟨⟩ ⟨acc2,y⟩ hq
       obtain ⟨a,hel,rfl⟩ : ∃ a,el z = .ok (a,y)/\acc2=acc++[a]:=by
        unfold elK at hq
        cases hel:el z with
        |error e2=>rw [hel] at hq;cases hq
        |ok p=>obtain ⟨a,y2⟩:=p;rw [hel] at hq;cases hq;exact ⟨a,rfl,rfl⟩
       have hl:=hls hz hel
       repeat' (first
|refine zA ?_
|refine zB ?_
|refine zH ?_
|refine zR ?_
|apply s_1
 conv=>whnf;arg 1;arg 4;arg 3;whnf
 refine ⟨?_,?_⟩
|exact trivial)
       all_goals first
        |exact zU (by omega)
        |skip
       refine zI (j':=j) (by omega) ⟨y,acc++[a],hl.1,by omega,by rw [List.length_append];simp only [List.length_cons,List.length_nil];omega,by rw [hel];rfl,Sub.live ⟨rfl,rfl,rfl,rfl,?_,trivial⟩ ⟨rfl,congrArg some (hR.bo _),rfl,congrArg some (hR.to6 _),trivial⟩⟩
       show V.c (.int .i64 ((acc.length:Int)+1))=V.c (.int .i64 ((acc++[a]).length:Int))
       rw [List.length_append];rfl
 . rw [show ((hdT z).k==2)=false by simpa using hk] at hm
   rw [hno z hk]
   by_cases h0:acc.length=0
   . repeat' (first
|apply s_m (clS al) (zP al) rfl
 . conv=>lhs;whnf
 . conv=>lhs;whnf
 . rfl
 . conv=>lhs;whnf;arg 1;whnf
 . first | exact zu _ _
 . first | exact hm
 . exact fun _=>rfl
 . exact fun _=>rfl
|apply zr rfl
 . conv=>lhs;whnf
 . conv=>lhs;whnf
 . first | rfl | assumption
|apply s_pr (clS al) (zP al) rfl
 . conv=>lhs;whnf
 . conv=>lhs;whnf
 . rfl
 . conv=>lhs;whnf;arg 1;whnf
 . first | exact zu _ _
 . first | exact hr
 . exact fun _=>rfl
 . first | (intro _ _;simp only [renL,renV,ren_cells];done) | exact fun _ _=>rfl
 refine fun ee hq => ?_
 change _=Out.die _
 rotate_left 1
 refine fun aa xx hq => ?_
 first | (replace hq:=zAM hq;obtain ⟨hq,rfl⟩:=hq) | (cases hq;have hq:=True.intro) | skip
|apply zB8 [pn 2] rfl
 . conv=>lhs;whnf
 . first | exact hf
 . decide
 . rfl
 . rfl
 change _=Out.die _
|exact (K2 h0 ‹_›).elim
|refine zA ?_
|refine zB ?_
|refine zH ?_
|apply aw_1
 conv=>whnf
 refine ⟨?_,trivial⟩
|apply zq rfl rfl
 . conv=>lhs;whnf
 . conv=>lhs;whnf
 . first | exact bT1 ‹_› | exact bT2 ‹_›
|apply s_1
 conv=>whnf;arg 1;arg 4;arg 3;whnf
 refine ⟨?_,?_⟩
|apply zF rfl
 . conv=>lhs;whnf
 . conv=>lhs;whnf
 . conv=>lhs;whnf;arg 2;whnf
|exact trivial
|intro hg)
     all_goals first | rfl | (cases hq;done)
   . have hs:isS z e=false:=by cases hs:isS z e with | false=>rfl | true=>exact (hE ⟨h0,hs⟩).elim
     have ha:=zDq hz hal hs
     repeat' (first
|apply s_m (clS al) (zP al) rfl
 . conv=>lhs;whnf
 . conv=>lhs;whnf
 . rfl
 . conv=>lhs;whnf;arg 1;whnf
 . first | exact zu _ _
 . first | exact ha | exact hm
 . exact fun _=>rfl
 . exact fun _=>rfl
|apply zAT (clS al) (zP al) rfl
 . conv=>lhs;whnf
 . conv=>lhs;whnf
 . first | rfl | assumption
 . conv=>lhs;whnf
 . rfl
 . conv=>lhs;whnf;arg 1;whnf
 . first | exact zu _ _
 . first | exact ha | exact hm
 . exact fun _=>rfl
 . exact fun _=>rfl
|apply zr rfl
 . conv=>lhs;whnf
 . conv=>lhs;whnf
 . first | rfl | assumption
|apply s_pr (clS al) (zP al) rfl
 . conv=>lhs;whnf
 . conv=>lhs;whnf
 . rfl
 . conv=>lhs;whnf;arg 1;whnf
 . first | exact zu _ _
 . first | exact hr
 . exact fun _=>rfl
 . first | (intro _ _;simp only [renL,renV,ren_cells];done) | exact fun _ _=>rfl
 refine fun ee hq => ?_
 change _=Out.die _
 rotate_left 1
 refine fun aa xx hq => ?_
 first | (replace hq:=zAM hq;obtain ⟨hq,rfl⟩:=hq) | (cases hq;have hq:=True.intro) | skip
|apply zB8 [pn 2] rfl
 . conv=>lhs;whnf
 . first | exact hf
 . decide
 . rfl
 . rfl
 change _=Out.die _
|exact (K0 h0 ‹_›).elim
|refine zA ?_
|refine zB ?_
|refine zH ?_
|apply aw_1
 conv=>whnf
 refine ⟨?_,trivial⟩
|apply za rfl rfl
 . conv=>lhs;whnf
 . conv=>lhs;whnf
 . first | exact bF1 ‹_› | exact bF2 ‹_›
|apply s_1
 conv=>whnf;arg 1;arg 4;arg 3;whnf
 refine ⟨?_,?_⟩
|apply zL rfl
 . conv=>lhs;whnf
 . conv=>lhs;whnf
 . first | rfl | assumption
 . conv=>lhs;whnf;arg 2;whnf
|apply zF rfl
 . conv=>lhs;whnf
 . conv=>lhs;whnf
 . conv=>lhs;whnf;arg 2;whnf
|exact trivial
|intro hg)
     all_goals first | rfl | (cases hq;done)
theorem zA3 {α β:Type} {al:List Tok} {toV:β->V} {i e:Nat × Int} (h:(Except.error i:PR α) = .error e):outS al toV (.error i:PR β)=Out.die (zE9 e):=by
 injection h with h;rw [<- h];rfl
theorem outS_errK {β γ:Type} {al:List Tok} {toV:β->V} {i e:Nat × Int} {f:γ->PS->PR β} (h:mnK (.error i) = .error e):outS al toV (thenQ (.error i:PR γ) f)=Out.die (zE9 e):=by
 unfold mnK at h
 injection h with h;rw [<- h];rfl
theorem mnK_no {p:List D × PS} {e:Nat × Int} (h:mnK (.ok p) = .error e):False:=by unfold mnK at h;cases h
theorem zKi {el:PS->PR D} {acc:List D} {x y:PS} {a:D} (h:el x = .ok (a,y)):elK el acc x = .ok ((),(acc++[a],y)):=by unfold elK;rw [h]
theorem zDa {el:PS->PR D} {acc:List D} {x:PS} {e:Nat × Int} (h:el x = .error e):elK el acc x = .error e:=by unfold elK;rw [h]
theorem ent_a:zB6 Tryz.prog 175=true:=by kernel_rfl
def BdS (nm:List UInt8) (acc:List D):Res:=.box 108 [.c (.string (bs nm)),.own (pn 3) 111 acc]
def TdS (acc:List D):Res:=.tok 111 acc.length
theorem ren_d (nm:List UInt8):RenK [.bx (pn 0) 0,.bx (pn 1) 0] (BdS nm) TdS:=⟨rfl,fun _=>rfl,fun _=>rfl,fun _=>rfl,fun _=>rfl⟩
section
variable {j:Nat} {x y z u:PS} {n:List UInt8} {e:Nat × Int} {t d:D} {q1 q2:Unit}
theorem ar_1 (h1:nameQ x = .error e):argQ x = .error e:=by rw [argQ,zw h1]
theorem ar_2 (h1:nameQ x = .ok (n,y)) (h2:takeQ [58] y = .error e):argQ x = .error e:=by rw [argQ,zX h1,zw h2]
theorem ar_3 (h1:nameQ x = .ok (n,y)) (h2:takeQ [58] y = .ok (q1,z)) (h3:zAd z = .error e):argQ x = .error e:=by rw [argQ,zX h1,zX h2,zw h3]
theorem ar_4 (h1:nameQ x = .ok (n,y)) (h2:takeQ [58] y = .ok (q1,z)) (h3:zAd z = .ok (d,u)):argQ x = .ok (argD n d,u):=by rw [argQ,zX h1,zX h2,zX h3]
end
theorem zEw (x:PS):argsQ x=if isS x [40]=true then manyF argQ [41] 16 x.ts.length [] (nxT x) else .ok ([],x):=by
 unfold argsQ
 rw [zDb]
theorem arg_no {x:PS} (h:(hdT x).k≠2):argQ x = .error ((hdT x).i,3):=by rw [argQ,nameQ,if_neg h];rfl
section
variable {al:List Tok} (hal:al.length<=100000) (hkd:Kd al)
include hal hkd
theorem p_arg (nm:List UInt8):CK al (BdS nm) TdS 175 [.bx (pn 0) 0,.bx (pn 1) 0] argQ:=by
 intro acc x h hacc
 have hnm:=zDp h hal
 have hex : ∀ {n y},nameQ x = .ok (n,y)->ACE EN5 Tryz.prog 119 [.bx (pn 0) 0,.c (.string (bs [58]))] [boxS al y] (outS al (fun _ => .tup []) (takeQ [58] y)):=fun h1=>zBL (h.name h1).1 hal [58]
 have hli : ∀ {n y u z},nameQ x = .ok (n,y)->takeQ [58] y = .ok (u,z)->ACE EN5 Tryz.prog 176 [.bx (pn 0) 0] [boxS al z] (outS al VV (zAd z)):=fun h1 h2=>zH2 hal hkd ((h.name h1).1.take h2).1
 refine zo (fn:=Tryz.f175) 17 Tryz.func175 rfl rfl ?_
 intro pas w0 w he hp
 repeat' (first
|apply s_pr (clS al) (zP al) rfl
 . conv=>lhs;whnf
 . conv=>lhs;whnf
 . rfl
 . conv=>lhs;whnf;arg 1;whnf
 . first | exact zu _ _
 . first | exact hnm | exact hex ‹_› | exact hli ‹_› ‹_›
 . exact fun _=>rfl
 . first | (intro _ _;simp only [renL,renV,ren_cells];done) | exact fun _ _=>rfl
 refine fun ee hq => ?_
 change _=Out.die _
 rotate_left 1
 refine fun aa xx hq => ?_
 first | (replace hq:=zAM hq;obtain ⟨hq,rfl⟩:=hq) | (cases hq;have hq:=True.intro) | skip
|apply zEg [argD _ _] rfl rfl
 . conv=>lhs;whnf
 . first | exact elemArg | (conv=>lhs;whnf;arg 1;whnf)
 . rfl
 . rfl
 . repeat' (first | exact trivial | apply And.intro | rfl)
|refine zA ?_
|refine zB ?_
|refine zH ?_
|apply aw_1
 conv=>whnf
 refine ⟨?_,trivial⟩
|apply s_1
 conv=>whnf;arg 1;arg 4;arg 3;whnf
 refine ⟨?_,?_⟩
|apply zS rfl rfl rfl
 . conv=>lhs;whnf
 . conv=>lhs;whnf;arg 1;whnf
 . conv=>lhs;whnf;arg 1;whnf
 . exact ⟨by kernel_rfl,by kernel_rfl⟩
 . rfl
|apply zBf rfl rfl
 . conv=>lhs;whnf
 . first | exact elemArg | (conv=>lhs;whnf;arg 1;whnf)
 . first | exact fun _=>rfl | (intro _;kernel_rfl)
 . conv=>lhs;whnf
 . conv=>lhs;whnf;arg 1;whnf
 . conv=>lhs;whnf
|apply zCu rfl
|exact trivial)
 all_goals first
  |(refine ⟨by simp,?_,?_⟩<;>simp only [List.length_cons,List.length_nil,maxLen]<;>omega)
  |(rw [zDa (ar_1 ‹_›)];rfl)
  |(rw [zDa (ar_2 ‹_› ‹_›)];rfl)
  |(rw [zDa (ar_3 ‹_› ‹_› ‹_›)];rfl)
  |skip
 rename_i n y h1 u z h2
 refine ⟨bsK al (BdS nm) TdS (acc++[argD n aa]) xx,by rw [zKi (ar_4 h1 h2 hq)];rfl,rfl,rfl,rfl,?_,trivial⟩
 show some (Res.tok _ (acc.length+1))=some (Res.tok _ (acc++[argD n aa]).length)
 rw [List.length_append];rfl
noncomputable def HxS (al:List Tok) (z:PS) (acc:List D):Vst 32:=
 stS 32 [(1,.bx 1 0),(3,.own 3 108 acc)] [(pn 0,boxS al z),(1,.box 62 [.bx (pn 0) 0]),(3,.tok 108 acc.length)]
noncomputable def HxB (al:List Tok) (z:PS) (acc:List D) (n:List UInt8):Vst 32:=
 stS 32 [(1,.bx 1 0),(3,.own 3 108 acc),(4,.bx 4 0)] [(pn 0,boxS al z),(1,.box 62 [.bx (pn 0) 0]),(3,.tok 108 acc.length),(4,.box 108 [.c (.string (bs n)),.own 904 111 []]),(904,.tok 111 0)]
noncomputable def HxD (al:List Tok) (z:PS) (acc:List D) (n:List UInt8) (aa:List D):Vst 32:=
 stS 32 [(1,.bx 1 0),(3,.own 3 108 acc),(4,.bx 4 0)] [(pn 0,boxS al z),(1,.box 62 [.bx (pn 0) 0]),(3,.tok 108 acc.length),(4,.box 108 [.c (.string (bs n)),.sl 111 aa])]
theorem zGE {x:PS} (h:Sx al x):ACE EN5 Tryz.prog 118 [.bx (pn 0) 0] [boxS al x] (outS al (fun l => .sl 108 l) (dirsQ x)):=by
 have e0:dirsQ x=dirsF (x.ts.length+1) [] x:=rfl
 have hxl:=h.len
 rw [e0]
 refine zo (fn:=Tryz.f118) 32 Tryz.func118 rfl rfl ?_
 intro pas w0 w he hp
 repeat' (first
|refine zA ?_
|refine zB ?_
|refine zH ?_
|apply aw_1
 conv=>whnf
 refine ⟨?_,trivial⟩
|apply s_1
 conv=>whnf;arg 1;arg 4;arg 3;whnf
 refine ⟨?_,?_⟩
|apply zAL rfl rfl rfl rfl
 . conv=>lhs;whnf;arg 1;whnf
 . rfl
|exact trivial)
 refine zg (Sub.own (t:=3) (e:=108) rfl rfl) ?_
 refine zi (fun j st => ∃ z acc,Sx al z/\z.ts.length<j/\acc.length+z.ts.length<=x.ts.length/\dirsF (x.ts.length+1) [] x=dirsF j acc z/\Sub (cxE EN5 Tryz.prog pas w0 w he hp (outS al (fun l=>V.sl 108 l) (dirsF (x.ts.length+1) [] x))) st (HxS al z acc)) (x.ts.length+1) ⟨x,[],h,by omega,by simp,rfl,?_⟩ ?_
 . exact Sub.live ⟨rfl,rfl,trivial⟩ ⟨rfl,rfl,rfl,trivial⟩
 rintro j st ⟨z,acc,hz,hzj,hzl,hI,hsub⟩
 refine zg hsub ?_
 clear hsub
 rw [hI]
 clear hI
 cases j with
 |zero=>omega
 |succ j =>
 have hi:=p_is hz hal [64]
 have hf:=zCp hz hal 4
 by_cases hs:isS z [64]=true
 rotate_left 1
 . have hs:isS z [64]=false:=by simpa using hs
   rw [hs] at hi
   rw [dl_end hs]
   repeat' (first
|apply s_m (clS al) (zP al) rfl
 . conv=>lhs;whnf
 . conv=>lhs;whnf
 . rfl
 . conv=>lhs;whnf;arg 1;whnf
 . first | exact zu _ _
 . first | exact hi
 . exact fun _=>rfl
 . exact fun _=>rfl
|refine zA ?_
|refine zB ?_
|refine zH ?_
|apply aw_1
 conv=>whnf
 refine ⟨?_,trivial⟩
|apply s_1
 conv=>whnf;arg 1;arg 4;arg 3;whnf
 refine ⟨?_,?_⟩
|refine zM ?_
|refine zK rfl ?_
|refine zJ ?_
|apply zAb rfl
 . conv=>lhs;whnf;arg 2;whnf
 . conv=>lhs;whnf;arg 1;whnf
|exact trivial)
   rfl
 rw [hs] at hi
 by_cases hlm:16<=acc.length
 . have K:decide ((acc.length:Int)>=16)=false->False:=fun h=>by simp at h;omega
   rw [dl_lim hs hlm]
   repeat' (first
|apply s_m (clS al) (zP al) rfl
 . conv=>lhs;whnf
 . conv=>lhs;whnf
 . rfl
 . conv=>lhs;whnf;arg 1;whnf
 . first | exact zu _ _
 . first | exact hi
 . exact fun _=>rfl
 . exact fun _=>rfl
|apply zB8 [pn 0] rfl
 . conv=>lhs;whnf
 . first | exact hf
 . decide
 . rfl
 . rfl
 change _=Out.die _
|exact (K ‹_›).elim
|refine zA ?_
|refine zB ?_
|refine zH ?_
|apply aw_1
 conv=>whnf
 refine ⟨?_,trivial⟩
|apply s_1
 conv=>whnf;arg 1;arg 4;arg 3;whnf
 refine ⟨?_,?_⟩
|refine zZ (by conv=>lhs;whnf) ?_ ?_<;>intro hb
|exact trivial)
   rfl
 have K:decide ((acc.length:Int)>=16)=true->False:=fun h=>by simp at h;omega
 have h1:=hz.sg hs
 have hk5:(hdT z).k≠5:=by unfold isS at hs;simp only [Bool.and_eq_true,beq_iff_eq] at hs;rw [hs.1];decide
 have hyc:=etaS1 hz hk5
 have hal2:=hz.len
 have hnm:=zDp h1.1 hal
 rcases hN:nameQ (nxT z) with e1 | ⟨n,y⟩
 . rw [dl_nm hs (by omega) hN]
   rw [hN] at hnm
   repeat' (first
|apply s_m (clS al) (zP al) rfl
 . conv=>lhs;whnf
 . conv=>lhs;whnf
 . rfl
 . conv=>lhs;whnf;arg 1;whnf
 . first | exact zu _ _
 . first | exact hi
 . exact fun _=>rfl
 . exact fun _=>rfl
|apply s_pr (clS al) (zP al) rfl
 . conv=>lhs;whnf
 . conv=>lhs;whnf
 . rfl
 . conv=>lhs;whnf;arg 1;whnf
 . first | exact zu _ _
 . first | exact hnm
 . exact fun _=>rfl
 . first | (intro _ _;simp only [renL,renV,ren_cells];done) | exact fun _ _=>rfl
 refine fun ee hq => ?_
 change _=Out.die _
 rotate_left 1
 refine fun aa xx hq => ?_
 first | (replace hq:=zAM hq;obtain ⟨hq,rfl⟩:=hq) | (cases hq;have hq:=True.intro) | skip
|exact (K ‹_›).elim
|apply z7 6 (HxS al (nxT z) acc) rfl
|refine zCB ?_
|refine zA ?_
|refine zB ?_
|refine zH ?_
|apply aw_1
 conv=>whnf
 refine ⟨?_,trivial⟩
|apply s_1
 conv=>whnf;arg 1;arg 4;arg 3;whnf
 refine ⟨?_,?_⟩
|apply zS rfl rfl rfl
 . conv=>lhs;whnf
 . conv=>lhs;whnf;arg 1;whnf
 . conv=>lhs;whnf;arg 1;whnf
 . exact ⟨by kernel_rfl,by kernel_rfl⟩
 . rfl
|refine zZ (by conv=>lhs;whnf) ?_ ?_<;>intro hb
|exact trivial)
   all_goals first
    |exact zU (by omega)
    |exact Sub.live ⟨rfl,rfl,trivial⟩ ⟨congrArg (fun c=>some (Res.box _ c)) hyc,rfl,rfl,trivial⟩
    |exact zA3 ‹_›
 have hN1:=h1.1.name hN
 rw [hN] at hnm
 have hgo:dirsF (j+1) acc z=thenQ (argsQ y) fun aa u=>dirsF j (acc++[dirD n aa]) u:=by rw [dirsF,if_pos hs,if_neg (by omega),zX hN]
 rw [hgo]
 have hac:=p_acc hN1.1 hal [40]
 by_cases hp4:isS y [40]=true
 . have h4:=hN1.1.sg hp4
   rw [if_pos hp4,hp4] at hac
   have hbk:=zG3 hal ent_a (ren_d n) (p_arg hal hkd n) (fun x h=>arg_no h) (fun h hq=>h.arg hq) [41] 16 y.ts.length h4.1 (by omega)
   rw [zEw,if_pos hp4]
   rcases hM:manyF argQ [41] 16 y.ts.length [] (nxT y) with e1 | ⟨aa,u⟩
   . rw [hM] at hbk
     repeat' (first
|apply s_m (clS al) (zP al) rfl
 . conv=>lhs;whnf
 . conv=>lhs;whnf
 . rfl
 . conv=>lhs;whnf;arg 1;whnf
 . first | exact zu _ _
 . first | exact hi | exact hac
 . exact fun _=>rfl
 . exact fun _=>rfl
|apply s_pr (clS al) (zP al) rfl
 . conv=>lhs;whnf
 . conv=>lhs;whnf
 . rfl
 . conv=>lhs;whnf;arg 1;whnf
 . first | exact zu _ _
 . first | exact hnm
 . exact fun _=>rfl
 . first | (intro _ _;simp only [renL,renV,ren_cells];done) | exact fun _ _=>rfl
 refine fun ee hq => ?_
 change _=Out.die _
 rotate_left 1
 refine fun aa xx hq => ?_
 first | (replace hq:=zAM hq;obtain ⟨hq,rfl⟩:=hq) | (cases hq;have hq:=True.intro) | skip
|apply zGu [1,4,pn 0,904] rfl
 . conv=>lhs;whnf
 . conv=>lhs;whnf
 . first | exact hbk
 . decide
 . rfl
 . rfl
 refine fun ee hq => ?_
 change _=Out.die _
 rotate_left 1
 refine fun aa xx hq => ?_
 first | (cases hq;have hq:=True.intro) | skip
|exact (K ‹_›).elim
|apply z7 6 (HxS al (nxT z) acc) rfl
|apply z7 7 (HxB al y acc n) rfl
|refine zCB ?_
|refine zA ?_
|refine zB ?_
|refine zH ?_
|apply aw_1
 conv=>whnf
 refine ⟨?_,trivial⟩
|apply s_1
 conv=>whnf;arg 1;arg 4;arg 3;whnf
 refine ⟨?_,?_⟩
|apply zS rfl rfl rfl
 . conv=>lhs;whnf
 . conv=>lhs;whnf;arg 1;whnf
 . conv=>lhs;whnf;arg 1;whnf
 . exact ⟨by kernel_rfl,by kernel_rfl⟩
 . rfl
|refine zZ (by conv=>lhs;whnf) ?_ ?_<;>intro hb
|exact trivial)
     all_goals first
      |exact zU (by omega)
      |exact Sub.live ⟨rfl,rfl,trivial⟩ ⟨congrArg (fun c=>some (Res.box _ c)) hyc,rfl,rfl,trivial⟩
      |exact zA3 ‹_›
      |exact (Sub.ownF (m:=4) (q:=904) (i:=1) (e:=111) rfl (by decide) rfl rfl rfl).trans (Sub.live ⟨rfl,rfl,rfl,trivial⟩ ⟨rfl,rfl,rfl,rfl,rfl,trivial⟩)
      |(cases hq;done)
      |exact outS_errK ‹_›
   rw [hM] at hbk
   repeat' (first
|apply s_m (clS al) (zP al) rfl
 . conv=>lhs;whnf
 . conv=>lhs;whnf
 . rfl
 . conv=>lhs;whnf;arg 1;whnf
 . first | exact zu _ _
 . first | exact hi | exact hac
 . exact fun _=>rfl
 . exact fun _=>rfl
|apply s_pr (clS al) (zP al) rfl
 . conv=>lhs;whnf
 . conv=>lhs;whnf
 . rfl
 . conv=>lhs;whnf;arg 1;whnf
 . first | exact zu _ _
 . first | exact hnm
 . exact fun _=>rfl
 . first | (intro _ _;simp only [renL,renV,ren_cells];done) | exact fun _ _=>rfl
 refine fun ee hq => ?_
 change _=Out.die _
 rotate_left 1
 refine fun aa xx hq => ?_
 first | (replace hq:=zAM hq;obtain ⟨hq,rfl⟩:=hq) | (cases hq;have hq:=True.intro) | skip
|apply zGu [1,4,pn 0,904] rfl
 . conv=>lhs;whnf
 . conv=>lhs;whnf
 . first | exact hbk
 . decide
 . rfl
 . rfl
 refine fun ee hq => ?_
 change _=Out.die _
 rotate_left 1
 refine fun aa xx hq => ?_
 first | (cases hq;have hq:=True.intro) | skip
|apply zEg [dirD n aa] rfl rfl
 . conv=>lhs;whnf
 . first | exact zHN | (conv=>lhs;whnf;arg 1;whnf)
 . rfl
 . rfl
 . repeat' (first | exact trivial | apply And.intro | rfl)
|exact (K ‹_›).elim
|apply z7 6 (HxS al (nxT z) acc) rfl
|apply z7 7 (HxB al y acc n) rfl
|apply z7 9 (HxD al u acc n aa) rfl
|refine zCB ?_
|refine zA ?_
|refine zB ?_
|refine zH ?_
|refine zR ?_
|apply aw_1
 conv=>whnf
 refine ⟨?_,trivial⟩
|apply s_1
 conv=>whnf;arg 1;arg 4;arg 3;whnf
 refine ⟨?_,?_⟩
|apply zS rfl rfl rfl
 . conv=>lhs;whnf
 . conv=>lhs;whnf;arg 1;whnf
 . conv=>lhs;whnf;arg 1;whnf
 . exact ⟨by kernel_rfl,by kernel_rfl⟩
 . rfl
|apply zBf rfl rfl
 . conv=>lhs;whnf
 . first | exact zHN | (conv=>lhs;whnf;arg 1;whnf)
 . first | exact fun _=>rfl | (intro _;kernel_rfl)
 . conv=>lhs;whnf
 . conv=>lhs;whnf;arg 1;whnf
 . conv=>lhs;whnf
|refine zZ (by conv=>lhs;whnf) ?_ ?_<;>intro hb
|exact trivial)
   all_goals first
    |exact zU (by omega)
    |exact Sub.live ⟨rfl,rfl,trivial⟩ ⟨congrArg (fun c=>some (Res.box _ c)) hyc,rfl,rfl,trivial⟩
    |exact (Sub.ownF (m:=4) (q:=904) (i:=1) (e:=111) rfl (by decide) rfl rfl rfl).trans (Sub.live ⟨rfl,rfl,rfl,trivial⟩ ⟨rfl,rfl,rfl,rfl,rfl,trivial⟩)
    |(refine ⟨by simp,?_,?_⟩<;>simp only [List.length_cons,List.length_nil,maxLen]<;>omega)
    |(cases hq;done)
    |exact (mnK_no hq).elim
    |exact (Sub.boxle (m:=4) (t:=108) (vs:=[.c (.string (bs n)),.own 904 111 aa]) (vs':=[.c (.string (bs n)),.sl 111 aa]) rfl (.cons (.refl _) (.cons (.own _ _ _) .nil))).trans (Sub.live ⟨rfl,rfl,rfl,trivial⟩ ⟨rfl,rfl,rfl,rfl,trivial⟩)
    |skip
   have hA:argsQ y = .ok (aa,u):=by rw [zEw,if_pos hp4,hM]
   have hA1:=hN1.1.args hA
   refine zI (j':=j) (by omega) ⟨u,acc++[dirD n aa],hA1.1,by omega,by rw [List.length_append];simp only [List.length_cons,List.length_nil];omega,rfl,Sub.live ⟨rfl,rfl,trivial⟩ ⟨rfl,rfl,?_,trivial⟩⟩
   show some (Res.tok _ (acc.length+1))=some (Res.tok _ (acc++[dirD n aa]).length)
   rw [List.length_append];rfl
 . have hp4:isS y [40]=false:=by simpa using hp4
   rw [if_neg (by rw [hp4];decide),hp4] at hac
   rw [zEw,if_neg (by rw [hp4];decide)]
   repeat' (first
|apply s_m (clS al) (zP al) rfl
 . conv=>lhs;whnf
 . conv=>lhs;whnf
 . rfl
 . conv=>lhs;whnf;arg 1;whnf
 . first | exact zu _ _
 . first | exact hi | exact hac
 . exact fun _=>rfl
 . exact fun _=>rfl
|apply s_pr (clS al) (zP al) rfl
 . conv=>lhs;whnf
 . conv=>lhs;whnf
 . rfl
 . conv=>lhs;whnf;arg 1;whnf
 . first | exact zu _ _
 . first | exact hnm
 . exact fun _=>rfl
 . first | (intro _ _;simp only [renL,renV,ren_cells];done) | exact fun _ _=>rfl
 refine fun ee hq => ?_
 change _=Out.die _
 rotate_left 1
 refine fun aa xx hq => ?_
 first | (replace hq:=zAM hq;obtain ⟨hq,rfl⟩:=hq) | (cases hq;have hq:=True.intro) | skip
|apply zEg [dirD n []] rfl rfl
 . conv=>lhs;whnf
 . first | exact zHN | (conv=>lhs;whnf;arg 1;whnf)
 . rfl
 . rfl
 . repeat' (first | exact trivial | apply And.intro | rfl)
|exact (K ‹_›).elim
|apply z7 6 (HxS al (nxT z) acc) rfl
|apply z7 7 (HxB al y acc n) rfl
|apply z7 9 (HxD al y acc n []) rfl
|refine zCB ?_
|refine zA ?_
|refine zB ?_
|refine zH ?_
|refine zR ?_
|apply aw_1
 conv=>whnf
 refine ⟨?_,trivial⟩
|apply s_1
 conv=>whnf;arg 1;arg 4;arg 3;whnf
 refine ⟨?_,?_⟩
|apply zS rfl rfl rfl
 . conv=>lhs;whnf
 . conv=>lhs;whnf;arg 1;whnf
 . conv=>lhs;whnf;arg 1;whnf
 . exact ⟨by kernel_rfl,by kernel_rfl⟩
 . rfl
|apply zBf rfl rfl
 . conv=>lhs;whnf
 . first | exact zHN | (conv=>lhs;whnf;arg 1;whnf)
 . first | exact fun _=>rfl | (intro _;kernel_rfl)
 . conv=>lhs;whnf
 . conv=>lhs;whnf;arg 1;whnf
 . conv=>lhs;whnf
|refine zZ (by conv=>lhs;whnf) ?_ ?_<;>intro hb
|exact trivial)
   all_goals first
    |exact zU (by omega)
    |exact Sub.live ⟨rfl,rfl,trivial⟩ ⟨congrArg (fun c=>some (Res.box _ c)) hyc,rfl,rfl,trivial⟩
    |exact (Sub.ownF (m:=4) (q:=904) (i:=1) (e:=111) rfl (by decide) rfl rfl rfl).trans (Sub.live ⟨rfl,rfl,rfl,trivial⟩ ⟨rfl,rfl,rfl,rfl,rfl,trivial⟩)
    |(refine ⟨by simp,?_,?_⟩<;>simp only [List.length_cons,List.length_nil,maxLen]<;>omega)
    |(cases hq;done)
    |exact (mnK_no hq).elim
    |exact (Sub.boxle (m:=4) (t:=108) (vs:=[.c (.string (bs n)),.own 904 111 []]) (vs':=[.c (.string (bs n)),.sl 111 []]) rfl (.cons (.refl _) (.cons (.own _ _ _) .nil))).trans (Sub.live ⟨rfl,rfl,rfl,trivial⟩ ⟨rfl,rfl,rfl,rfl,trivial⟩)
    |skip
   have hA:argsQ y = .ok ([],y):=by rw [zEw,if_neg (by rw [hp4];decide)]
   have hA1:=hN1.1.args hA
   refine zI (j':=j) (by omega) ⟨y,acc++[dirD n []],hA1.1,by omega,by rw [List.length_append];simp only [List.length_cons,List.length_nil];omega,rfl,Sub.live ⟨rfl,rfl,trivial⟩ ⟨rfl,rfl,?_,trivial⟩⟩
   show some (Res.tok _ (acc.length+1))=some (Res.tok _ (acc++[dirD n []]).length)
   rw [List.length_append];rfl
end
end
section
open Go.RowKit
def eqX (x:PS):PS:=if isS x [61]=true then nxT x else x
def pqX (x:PS):PS:=if isS x [40]=true then nxT x else x
section
variable {x y z u v o w:PS} {n:List UInt8} {e:Nat × Int} {t d:D} {l aa:List D} {q1 q2:Unit}
theorem in_1 (h1:nameQ x = .error e):inQ x = .error e:=by rw [inQ,zw h1]
theorem in_2 (h1:nameQ x = .ok (n,y)) (h2:takeQ [58] y = .error e):inQ x = .error e:=by rw [inQ,zX h1,zw h2]
theorem in_3 (h1:nameQ x = .ok (n,y)) (h2:takeQ [58] y = .ok (q1,z)) (h3:typQ z = .error e):inQ x = .error e:=by rw [inQ,zX h1,zX h2,zw h3]
theorem in_4 (h1:nameQ x = .ok (n,y)) (h2:takeQ [58] y = .ok (q1,z)) (h3:typQ z = .ok (t,u)) (h4:isS u [61]=true) (h5:zAd (eqX u) = .error e):inQ x = .error e:=by
 rw [eqX,if_pos h4] at h5
 rw [inQ,zX h1,zX h2,zX h3,if_pos h4,zw h5];rfl
theorem in_5 (h1:nameQ x = .ok (n,y)) (h2:takeQ [58] y = .ok (q1,z)) (h3:typQ z = .ok (t,u)) (h4:isS u [61]=true) (h5:zAd (eqX u) = .ok (d,o)) (h6:dirsQ o = .error e):inQ x = .error e:=by
 rw [eqX,if_pos h4] at h5
 rw [inQ,zX h1,zX h2,zX h3,if_pos h4,zX h5,zX (r:=.ok ((true,d),o)) rfl,zw h6]
theorem in_6 (h1:nameQ x = .ok (n,y)) (h2:takeQ [58] y = .ok (q1,z)) (h3:typQ z = .ok (t,u)) (h4:isS u [61]=true) (h5:zAd (eqX u) = .ok (d,o)) (h6:dirsQ o = .ok (l,w)):inQ x = .ok (sInD n t true d l,w):=by
 rw [eqX,if_pos h4] at h5
 rw [inQ,zX h1,zX h2,zX h3,if_pos h4,zX h5,zX (r:=.ok ((true,d),o)) rfl,zX h6]
theorem eqX_f (h4:isS u [61]=false):eqX u=u:=by rw [eqX,if_neg (by rw [h4];decide)]
theorem in_7 (h1:nameQ x = .ok (n,y)) (h2:takeQ [58] y = .ok (q1,z)) (h3:typQ z = .ok (t,u)) (h4:isS u [61]=false) (h6:dirsQ (eqX u) = .error e):inQ x = .error e:=by
 rw [eqX_f h4] at h6
 rw [inQ,zX h1,zX h2,zX h3,if_neg (by rw [h4];decide),zX (r:=.ok ((false,zDt),u)) rfl,zw h6]
theorem in_8 (h1:nameQ x = .ok (n,y)) (h2:takeQ [58] y = .ok (q1,z)) (h3:typQ z = .ok (t,u)) (h4:isS u [61]=false) (h6:dirsQ (eqX u) = .ok (l,w)):inQ x = .ok (sInD n t false zDt l,w):=by
 rw [eqX_f h4] at h6
 rw [inQ,zX h1,zX h2,zX h3,if_neg (by rw [h4];decide),zX (r:=.ok ((false,zDt),u)) rfl,zX h6]
theorem pqX_f (h4:isS u [40]=false):pqX u=u:=by rw [pqX,if_neg (by rw [h4];decide)]
theorem fi_1 (h1:nameQ x = .error e):fdQ x = .error e:=by rw [fdQ,zw h1]
theorem fi_2 (h1:nameQ x = .ok (n,y)) (h2:isS y [40]=true) (h3:insQ [41] (pqX y) = .error e):fdQ x = .error e:=by
 rw [pqX,if_pos h2] at h3
 rw [fdQ,zX h1,if_pos h2,zw h3]
def fdT (n:List UInt8) (aa:List D) (z:PS):PR D:=thenQ (takeQ [58] z) fun _ u=>thenQ (typQ u) fun t v=>thenQ (dirsQ v) fun ds w => .ok (sFdD n aa t ds,w)
theorem fi_3 (h1:nameQ x = .ok (n,y)) (h2:isS y [40]=true) (h3:insQ [41] (pqX y) = .ok (aa,z)):fdQ x=fdT n aa z:=by
 rw [pqX,if_pos h2] at h3
 rw [fdQ,zX h1,if_pos h2,zX h3];rfl
theorem fi_4 (h1:nameQ x = .ok (n,y)) (h2:isS y [40]=false):fdQ x=fdT n [] (pqX y):=by
 rw [pqX_f h2,fdQ,zX h1,if_neg (by rw [h2];decide),zX (r:=.ok ([],y)) rfl];rfl
theorem ft_1 (h1:takeQ [58] z = .error e):fdT n aa z = .error e:=by rw [fdT,zw h1]
theorem ft_2 (h1:takeQ [58] z = .ok (q1,u)) (h2:typQ u = .error e):fdT n aa z = .error e:=by rw [fdT,zX h1,zw h2]
theorem ft_3 (h1:takeQ [58] z = .ok (q1,u)) (h2:typQ u = .ok (t,v)) (h3:dirsQ v = .error e):fdT n aa z = .error e:=by rw [fdT,zX h1,zX h2,zw h3]
theorem ft_4 (h1:takeQ [58] z = .ok (q1,u)) (h2:typQ u = .ok (t,v)) (h3:dirsQ v = .ok (l,w)):fdT n aa z = .ok (sFdD n aa t l,w):=by rw [fdT,zX h1,zX h2,zX h3]
end
theorem Sx.eqX {al:List Tok} {x:PS} (h:Sx al x):Sx al (eqX x)/\(Proofs.YthppafnlnnpciaaGreatDoor.eqX x).ts.length<=x.ts.length:=by
 unfold Proofs.YthppafnlnnpciaaGreatDoor.eqX
 split
 . rename_i hs;have:=h.sg hs;exact ⟨this.1,by omega⟩
 . exact ⟨h,Nat.le_refl _⟩
theorem Sx.pqX {al:List Tok} {x:PS} (h:Sx al x):Sx al (pqX x)/\(Proofs.YthppafnlnnpciaaGreatDoor.pqX x).ts.length<=x.ts.length:=by
 unfold Proofs.YthppafnlnnpciaaGreatDoor.pqX
 split
 . rename_i hs;have:=h.sg hs;exact ⟨this.1,by omega⟩
 . exact ⟨h,Nat.le_refl _⟩
attribute [local irreducible] wpList Calls Code.wp AW AWo OpOk seqK zz z8 loopK endK AC zl Yld Sub
attribute [local irreducible] ACB ACX ACE absLexG YldG YldU
noncomputable def VIn (d:D):V:=.agg (cellsV Tryz.prog 12 55 d)
noncomputable def VFd (d:D):V:=.agg (cellsV Tryz.prog 12 50 d)
section
variable {al:List Tok} (hal:al.length<=100000) (hkd:Kd al)
include hal hkd
theorem p_input {x:PS} (h:Sx al x):ACE EN5 Tryz.prog 178 [.bx (pn 0) 0] [boxS al x] (outS al VIn (inQ x)):=by
 have hnm:=zDp h hal
 have hex : ∀ {n y},nameQ x = .ok (n,y)->ACE EN5 Tryz.prog 119 [.bx (pn 0) 0,.c (.string (bs [58]))] [boxS al y] (outS al (fun _ => .tup []) (takeQ [58] y)):=fun h1=>zBL (h.name h1).1 hal [58]
 have hty : ∀ {n y u z},nameQ x = .ok (n,y)->takeQ [58] y = .ok (u,z)->ACE EN5 Tryz.prog 179 [.bx (pn 0) 0] [boxS al z] (outS al (fun d => .agg (cellsV Tryz.prog 12 48 d)) (typQ z)):=fun h1 h2=>p_ref ((h.name h1).1.take h2).1 hal
 have E3 : ∀ {n y u z t v},nameQ x = .ok (n,y)->takeQ [58] y = .ok (u,z)->typQ z = .ok (t,v)->Sx al v:=fun h1 h2 h3=>(((h.name h1).1.take h2).1.typ h3).1
 have hac : ∀ {n y u z t v},nameQ x = .ok (n,y)->takeQ [58] y = .ok (u,z)->typQ z = .ok (t,v)->ACB EN5 Tryz.prog 173 [.bx (pn 0) 0,.c (.string (bs [61]))] [boxS al v] (.c (.bool (isS v [61]))) [boxS al (eqX v)]:=fun h1 h2 h3=>p_acc (E3 h1 h2 h3) hal [61]
 have hli : ∀ {n y u z t v},nameQ x = .ok (n,y)->takeQ [58] y = .ok (u,z)->typQ z = .ok (t,v)->ACE EN5 Tryz.prog 176 [.bx (pn 0) 0] [boxS al (eqX v)] (outS al VV (zAd (eqX v))):=fun h1 h2 h3=>zH2 hal hkd (E3 h1 h2 h3).eqX.1
 have hd1 : ∀ {n y u z t v d o},nameQ x = .ok (n,y)->takeQ [58] y = .ok (u,z)->typQ z = .ok (t,v)->zAd (eqX v) = .ok (d,o)->ACE EN5 Tryz.prog 118 [.bx (pn 0) 0] [boxS al o] (outS al (fun l => .sl 108 l) (dirsQ o)):=fun h1 h2 h3 h4=>zGE hal hkd ((E3 h1 h2 h3).eqX.1.whole h4).1
 have hd2 : ∀ {n y u z t v},nameQ x = .ok (n,y)->takeQ [58] y = .ok (u,z)->typQ z = .ok (t,v)->ACE EN5 Tryz.prog 118 [.bx (pn 0) 0] [boxS al (eqX v)] (outS al (fun l => .sl 108 l) (dirsQ (eqX v))):=fun h1 h2 h3=>zGE hal hkd (E3 h1 h2 h3).eqX.1
 refine zo (fn:=Tryz.f178) 22 Tryz.func178 rfl rfl ?_
 intro pas w0 w he hp
 repeat' (first
|apply s_m (clS al) (zP al) rfl
 . conv=>lhs;whnf
 . conv=>lhs;whnf
 . rfl
 . conv=>lhs;whnf;arg 1;whnf
 . first | exact zu _ _
 . first | exact hac ‹_› ‹_› ‹_›
 . exact fun _=>rfl
 . exact fun _=>rfl
|apply zAx (VIn (sInD _ _ true _ _)) rfl rfl
 . conv=>lhs;whnf;arg 2;whnf
 . repeat' (first | exact VLe.refl _ | exact VLe.nil _ | exact VLe.lit _ _ | exact VLe.own _ _ _ | apply VLe.agg | apply VLeL.cons | exact VLeL.nil)
|apply zAx (VIn (sInD _ _ false zDt _)) rfl rfl
 . conv=>lhs;whnf;arg 2;whnf
 . repeat' (first | exact VLe.refl _ | exact VLe.nil _ | exact VLe.lit _ _ | exact VLe.own _ _ _ | apply VLe.agg | apply VLeL.cons | exact VLeL.nil)
|apply s_pr (clS al) (zP al) rfl
 . conv=>lhs;whnf
 . conv=>lhs;whnf
 . rfl
 . conv=>lhs;whnf;arg 1;whnf
 . first | exact zu _ _
 . first | exact hnm | exact hex ‹_› | exact hty ‹_› ‹_› | exact hli ‹_› ‹_› ‹_› | exact hd1 ‹_› ‹_› ‹_› ‹_› | exact hd2 ‹_› ‹_› ‹_›
 . exact fun _=>rfl
 . first | (intro _ _;simp only [renL,renV,ren_cells];done) | exact fun _ _=>rfl
 refine fun ee hq => ?_
 change _=Out.die _
 rotate_left 1
 refine fun aa xx hq => ?_
 first | (replace hq:=zAM hq;obtain ⟨hq,rfl⟩:=hq) | (cases hq;have hq:=True.intro) | skip
|refine zA ?_
|refine zB ?_
|refine zH ?_
|apply aw_1
 conv=>whnf
 refine ⟨?_,trivial⟩
|apply s_1
 conv=>whnf;arg 1;arg 4;arg 3;whnf
 refine ⟨?_,?_⟩
|apply zS rfl rfl rfl
 . conv=>lhs;whnf
 . conv=>lhs;whnf;arg 1;whnf
 . conv=>lhs;whnf;arg 1;whnf
 . exact ⟨by kernel_rfl,by kernel_rfl⟩
 . rfl
|refine zZ (by conv=>lhs;whnf) ?_ ?_<;>intro hb
|apply zAb rfl
 . conv=>lhs;whnf;arg 2;whnf
 . conv=>lhs;whnf;arg 1;whnf
|exact trivial)
 all_goals first
  |(rw [in_1 ‹_›];rfl)
  |(rw [in_2 ‹_› ‹_›];rfl)
  |(rw [in_3 ‹_› ‹_› ‹_›];rfl)
  |(rw [in_4 ‹_› ‹_› ‹_› ‹_› ‹_›];rfl)
  |(rw [in_5 ‹_› ‹_› ‹_› ‹_› ‹_› ‹_›];rfl)
  |(rw [in_6 ‹_› ‹_› ‹_› ‹_› ‹_› ‹_›];rfl)
  |(rw [in_7 ‹_› ‹_› ‹_› ‹_› ‹_›];rfl)
  |(rw [in_8 ‹_› ‹_› ‹_› ‹_› ‹_›];rfl)
  |skip
end
end
end Go.Proofs.YthppafnlnnpciaaGreatDoor
