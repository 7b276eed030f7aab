import Derived.Test.YthppafnlnnpciaaGreatDoorV45
set_option maxHeartbeats 8000000
set_option maxRecDepth 100000
set_option linter.unusedVariables false
set_option linter.unusedSimpArgs false
namespace Go.Proofs.YthppafnlnnpciaaGreatDoor
section
open Go.RowKit
attribute [local irreducible] wpList Calls Code.wp AW AWo OpOk seqK zz z8 loopK endK AC zl Yld Sub
attribute [local irreducible] ACB ACX ACE absLexG YldG YldU
def boxN (n:Nat):Res:=.box 190 [.bx (pn 1) 0,.c (.int .i64 ((Nat.min n 4096:Nat):Int))]
def bsV (al:List Tok) (x:PS):List Res:=[boxN x.nd,boxS al x]
noncomputable def outV (al:List Tok) (r:PR D):Out:=zH4 (bsV al) VV zE9 r
theorem nx_nd0 (x:PS):(nxT x).nd=x.nd:=by unfold nxT;split<;>rfl
theorem take_nd {s:List UInt8} {x y:PS} {u:Unit} (h:takeQ s x = .ok (u,y)):y.nd=x.nd:=by
 unfold takeQ at h
 split at h
 . cases h;exact nx_nd0 x
 . cases h
theorem out_nx {al:List Tok} (v:D) (z:PS):outV al (.ok (v,nxT z))=Out.ret (VV v) [boxN z.nd,boxS al (nxT z)]:=by
 show Out.ret (VV v) [boxN (nxT z).nd,boxS al (nxT z)]=_
 rw [nx_nd0]
theorem p_word (s:List UInt8):AC EN5 Tryz.prog 229 [.c (.string (bs s))] (VV (zDg s)):=by
 have hve:=vEnum_ac s
 have hvb:=vBool_ac
 refine zN 15 Tryz.func229 rfl rfl rfl rfl ?_
 intro s0 w he
 repeat' (first
|apply zAx (VV zDt) rfl rfl
 . conv=>lhs;whnf;arg 2;whnf
 . repeat' (first | exact VLe.refl _ | exact VLe.nil _ | exact VLe.lit _ _ | exact VLe.own _ _ _ | apply VLe.agg | apply VLeL.cons | exact VLeL.nil)
|refine zA ?_
|refine zB ?_
|refine zH ?_
|refine zR ?_
|apply aw_1
 conv=>whnf
 refine ⟨?_,trivial⟩
|apply s_1
 conv=>whnf;arg 1;arg 4;arg 3;whnf
 refine ⟨?_,?_⟩
|apply ze rfl
 . conv=>lhs;whnf
 . conv=>lhs;whnf
 . first | exact hve | exact hvb _
|apply zS rfl rfl rfl
 . conv=>lhs;whnf
 . conv=>lhs;whnf;arg 1;whnf
 . conv=>lhs;whnf;arg 1;whnf
 . exact ⟨by kernel_rfl,by kernel_rfl⟩
 . rfl
|refine zZ (by conv=>lhs;whnf) ?_ ?_<;>intro hb
|refine zO ?_
|refine zQ ?_
|refine zE ?_
|refine ⟨_,by conv=>lhs;whnf;arg 2;whnf,?_⟩;conv=>rhs;whnf
|exact trivial)
 all_goals first
  |(exact (w_no (a:=(bs s).toList==(⟨#[116,114,117,101]⟩:ByteArray).toList) ‹_› ‹_›).elim)
  |(rw [w_true ‹_›];rfl)
  |(rw [w_false ‹_› ‹_›];rfl)
  |(rw [w_null ‹_› ‹_› ‹_›];rfl)
  |(rw [w_enum ‹_› ‹_› ‹_›];rfl)
  |skip
noncomputable def HlL (al:List Tok) (lv:Nat) (y:PS) (acc:List D):Vst 23:=
 stS 23 [(0,.bx (pn 0) 0),(1,.c (.int .i64 (lv:Int))),(4,.bx 4 0),(5,.bx 5 0)] [(pn 0,boxN y.nd),(pn 1,boxS al y),(4,.box 53 zVal),(5,.box 53 [.c (.int .i64 5),.c (.int .i64 0),.c (.string ⟨#[]⟩),.own 901 53 acc,.c (.slice none 0 0)]),(901,.tok 53 acc.length)]
section
variable {al:List Tok} {f lv:Nat} {y:PS}
theorem p_list (ih : ∀ z,Sx al z->ACE EN5 Tryz.prog 202 [.bx (pn 0) 0,.c (.int .i64 ((lv+1:Nat):Int))] (bsV al z) (outV al (valueQ f (lv+1) z))) (hlv:lv<=25) (hy:Sx al y) (hal:al.length<=100000) :
 ACE EN5 Tryz.prog 230 [.bx (pn 0) 0,.c (.int .i64 (lv:Int))] (bsV al y) (outV al (thenQ (itemsQ (valueQ f (lv+1)) (y.ts.length+1) [] y) fun l z => .ok (valD 5 0 [] l [],z))):=by
 have hyl:=hy.len
 refine zo (fn:=Tryz.f230) 23 Tryz.func230 rfl rfl ?_
 intro pas w0 w he hp
 repeat' (first
|refine zA ?_
|refine zB ?_
|refine zH ?_
|apply aw_1
 conv=>whnf
 refine ⟨?_,trivial⟩
|apply s_1
 conv=>whnf;arg 1;arg 4;arg 3;whnf
 refine ⟨?_,?_⟩
|apply zS rfl rfl rfl
 . conv=>lhs;whnf
 . conv=>lhs;whnf;arg 1;whnf
 . conv=>lhs;whnf;arg 1;whnf
 . exact ⟨by kernel_rfl,by kernel_rfl⟩
 . rfl
|exact trivial)
 refine zg (Sub.ownF (m:=5) (q:=901) (i:=3) (e:=53) rfl (by decide) rfl rfl rfl) ?_
 refine zi (fun j st => ∃ z acc,Sx al z/\z.ts.length<j/\acc.length+z.ts.length<=y.ts.length/\itemsQ (valueQ f (lv+1)) (y.ts.length+1) [] y=itemsQ (valueQ f (lv+1)) j acc z/\Sub (cxE EN5 Tryz.prog pas w0 w he hp (outV al (thenQ (itemsQ (valueQ f (lv+1)) (y.ts.length+1) [] y) fun l z => .ok (valD 5 0 [] l [],z)))) st (HlL al lv z acc)) (y.ts.length+1) ⟨y,[],hy,by omega,by simp,rfl,?_⟩ ?_
 . exact Sub.live ⟨rfl,rfl,rfl,rfl,trivial⟩ ⟨rfl,rfl,rfl,rfl,rfl,trivial⟩
 rintro j st ⟨z,acc,hz,hzj,hzl,hI,hsub⟩
 refine zg hsub ?_
 clear hsub
 rw [hI]
 clear hI
 cases j with
 |zero=>omega
 |succ j =>
 by_cases hs:isS z [93]=true
 . have ha:=zFI hz hal hs
   rw [items_end (by rw [hs];rfl)]
   repeat' (first
|apply zAx (VV (valD 5 0 [] acc [])) rfl rfl
 . conv=>lhs;whnf;arg 2;whnf
 . repeat' (first | exact VLe.refl _ | exact VLe.nil _ | exact VLe.lit _ _ | exact VLe.own _ _ _ | apply VLe.agg | apply VLeL.cons | exact VLeL.nil)
|apply s_m (clS al) (zP al) rfl
 . conv=>lhs;whnf
 . conv=>lhs;whnf
 . rfl
 . conv=>lhs;whnf;arg 1;whnf
 . first | exact zu _ _
 . first | exact ha
 . exact fun _=>rfl
 . exact fun _=>rfl
|refine zA ?_
|refine zB ?_
|refine zH ?_
|apply aw_1
 conv=>whnf
 refine ⟨?_,trivial⟩
|apply s_1
 conv=>whnf;arg 1;arg 4;arg 3;whnf
 refine ⟨?_,?_⟩
|apply zS rfl rfl rfl
 . conv=>lhs;whnf
 . conv=>lhs;whnf;arg 1;whnf
 . conv=>lhs;whnf;arg 1;whnf
 . exact ⟨by kernel_rfl,by kernel_rfl⟩
 . rfl
|refine zM ?_
|refine zK rfl ?_
|refine zJ ?_
|apply zHE rfl
 . conv=>lhs;whnf;arg 2;whnf
|exact trivial)
   exact ⟨[boxN z.nd,boxS al (nxT z)],out_nx _ z,rfl,rfl,trivial⟩
 have hs:isS z [93]=false:=by simpa using hs
 have ha:=zDq hz hal hs
 have hv:=ih z hz
 rw [items_go (by rw [hs];rfl)]
 repeat' (first
|apply zBs 10 ([(1,[5])]) ([(5,[1000000,1000001]),(7,[901]),(9,[5])]) rfl (by kernel_rfl) (by kernel_rfl) (by kernel_rfl)
|apply zHK
|apply zHJ rfl
 . conv=>lhs;whnf
 . conv=>lhs;whnf;arg 2;whnf
|apply zIO rfl rfl
 . conv=>lhs;whnf
 . first | exact zC0 | (conv=>lhs;whnf;arg 1;whnf)
 . first | exact fun _=>rfl | (intro _;kernel_rfl)
 . conv=>lhs;whnf
 . rfl
 . conv=>lhs;whnf;arg 1;whnf
 . conv=>lhs;whnf
|apply zCQ rfl rfl rfl
 . conv=>lhs;whnf
 . rfl
 . conv=>lhs;whnf;arg 1;whnf
 . conv=>lhs;whnf;arg 1;whnf
 . exact ⟨by kernel_rfl,by kernel_rfl⟩
 . rfl
|exact Or.inl ⟨pn 0,_,rfl⟩
|refine Or.inr ?_
|apply g_prN [pn 0,pn 1] (default:D) [.box 0 [.c (.tuple #[])],.box 0 [.c (.tuple #[])]] rfl
 . conv=>lhs;whnf
 . conv=>lhs;whnf
 . first | exact hv
 . decide
 . rfl
 . rfl
 . exact fun _=>rfl
 . rfl
 . rfl
 refine fun ee hq tm rs => ?_
 change _=Out.die _
 rotate_left 1
 refine fun aa xx hq => ?_
 first | (cases hq;have hq:=True.intro) | skip
 rotate_left 1
 refine fun ee hq => ?_
 first | (cases hq;done) | skip
|show inO _ _=true;rfl
|apply zDx [aa] rfl rfl
 . conv=>lhs;whnf
 . first | exact zC0 | (conv=>lhs;whnf;arg 1;whnf)
 . rfl
 . rfl
 . repeat' (first | exact trivial | apply And.intro | rfl)
|apply zDx [default] rfl rfl
 . conv=>lhs;whnf
 . first | exact zC0 | (conv=>lhs;whnf;arg 1;whnf)
 . rfl
 . rfl
 . repeat' (first | exact trivial | apply And.intro | rfl)
|apply s_m (clS al) (zP al) rfl
 . conv=>lhs;whnf
 . conv=>lhs;whnf
 . rfl
 . conv=>lhs;whnf;arg 1;whnf
 . first | exact zu _ _
 . first | exact ha
 . exact fun _=>rfl
 . exact fun _=>rfl
|refine zA ?_
|refine zB ?_
|refine zH ?_
|refine zR ?_
|apply aw_1
 conv=>whnf
 refine ⟨?_,trivial⟩
|apply s_1
 conv=>whnf;arg 1;arg 4;arg 3;whnf
 refine ⟨?_,?_⟩
|exact trivial)
 all_goals first
  |exact zU (by omega)
  |(refine ⟨by simp,?_,?_⟩<;>simp only [List.length_cons,List.length_nil,maxLen]<;>omega)
  |(rw [zw hq];rfl)
  |skip
 have hx:=hz.value hq
 refine zI (j':=j) (by omega) ⟨xx,acc++[aa],hx.1,by omega,by rw [List.length_append];simp only [List.length_cons,List.length_nil];omega,by rw [zX hq],Sub.live ⟨rfl,rfl,rfl,rfl,trivial⟩ ⟨rfl,rfl,rfl,rfl,?_,trivial⟩⟩
 show some (Res.tok _ (acc.length+1))=some (Res.tok _ (acc++[aa]).length)
 rw [List.length_append];rfl
noncomputable def HlO (al:List Tok) (lv:Nat) (y:PS) (ks:List (List UInt8)) (acc:List D):Vst 69:=
 stS 69 [(0,.bx (pn 0) 0),(1,.c (.int .i64 (lv:Int))),(4,.bx 4 0),(5,.bx 5 0),(6,.mp 11)] [(pn 0,boxN y.nd),(pn 1,boxS al y),(4,.box 53 zVal),(5,.box 53 [.c (.int .i64 6),.c (.int .i64 0),.c (.string ⟨#[]⟩),.own 901 53 acc,.own 902 9 (ks.map strD)]),(901,.tok 53 acc.length),(902,.tok 9 (ks.map strD).length),(11,setK Tryz.prog false 9 222 ks)]
theorem mapOk_:MapOk Tryz.prog 221 9 222 false where
 ht:=by kernel_rfl
 hk:=by kernel_rfl
 hz _:=rfl
 he h:=by cases h
theorem fl_go {v:PS->PR D} {j:Nat} {ks:List (List UInt8)} {acc:List D} {z:PS} (h:isS z [125]=false) (hk:(hdT z).k=2):zAG v (j+1) ks acc z=if (hdT z).s∈ks then .error ((hdT z).i,7) else thenQ (takeQ [58] (nxT z)) fun _ u=>thenQ (v u) fun a o=>zAG v j (ks++[(hdT z).s]) (acc++[a]) o:=by
 rw [zIU (by rw [h];rfl),zX (a:=(hdT z).s) (x:=nxT z) (by rw [nameQ,if_pos hk])]
 by_cases hm:(hdT z).s∈ks
 . rw [if_pos (by simpa using hm),if_pos hm]
 . rw [if_neg (by simpa using hm),if_neg hm]
theorem p_object (ih : ∀ z,Sx al z->ACE EN5 Tryz.prog 202 [.bx (pn 0) 0,.c (.int .i64 ((lv+1:Nat):Int))] (bsV al z) (outV al (valueQ f (lv+1) z))) (hlv:lv<=25) (hy:Sx al y) (hal:al.length<=100000) :
 ACE EN5 Tryz.prog 231 [.bx (pn 0) 0,.c (.int .i64 (lv:Int))] (bsV al y) (outV al (thenQ (zAG (valueQ f (lv+1)) (y.ts.length+1) [] [] y) fun l z => .ok (valD 6 0 [] l.2 l.1,z))):=by
 have hyl:=hy.len
 refine zo (fn:=Tryz.f231) 69 Tryz.func231 rfl rfl ?_
 intro pas w0 w he hp
 repeat' (first
|apply s_mkmap rfl rfl rfl rfl false 9 222
|refine zA ?_
|refine zB ?_
|refine zH ?_
|apply aw_1
 conv=>whnf
 refine ⟨?_,trivial⟩
|apply s_1
 conv=>whnf;arg 1;arg 4;arg 3;whnf
 refine ⟨?_,?_⟩
|apply zS rfl rfl rfl
 . conv=>lhs;whnf
 . conv=>lhs;whnf;arg 1;whnf
 . conv=>lhs;whnf;arg 1;whnf
 . exact ⟨by kernel_rfl,by kernel_rfl⟩
 . rfl
|exact trivial)
 refine zg (Sub.ownF (m:=5) (q:=901) (i:=3) (e:=53) rfl (by decide) rfl rfl rfl) ?_
 refine zg (Sub.ownF (m:=5) (q:=902) (i:=4) (e:=9) rfl (by decide) rfl rfl rfl) ?_
 refine zi (fun j st => ∃ z ks acc,Sx al z/\z.ts.length<j/\acc.length+z.ts.length<=y.ts.length/\acc.length=ks.length/\zAG (valueQ f (lv+1)) (y.ts.length+1) [] [] y=zAG (valueQ f (lv+1)) j ks acc z/\Sub (cxE EN5 Tryz.prog pas w0 w he hp (outV al (thenQ (zAG (valueQ f (lv+1)) (y.ts.length+1) [] [] y) fun l z => .ok (valD 6 0 [] l.2 l.1,z)))) st (HlO al lv z ks acc)) (y.ts.length+1) ⟨y,[],[],hy,by omega,by simp,rfl,rfl,?_⟩ ?_
 . exact Sub.live ⟨rfl,rfl,rfl,rfl,rfl,trivial⟩ ⟨rfl,rfl,rfl,rfl,rfl,rfl,rfl,trivial⟩
 rintro j st ⟨z,ks,acc,hz,hzj,hzl,hka,hI,hsub⟩
 refine zg hsub ?_
 clear hsub
 rw [hI]
 clear hI
 cases j with
 |zero=>omega
 |succ j =>
 by_cases hs:isS z [125]=true
 . have ha:=zFI hz hal hs
   rw [fields_end (by rw [hs];rfl)]
   repeat' (first
|apply zAx (VV (valD 6 0 [] acc ks)) rfl rfl
 . conv=>lhs;whnf;arg 2;whnf
 . repeat' (first | exact VLe.refl _ | exact VLe.nil _ | exact VLe.lit _ _ | exact VLe.own _ _ _ | apply VLe.agg | apply VLeL.cons | exact VLeL.nil)
|apply s_m (clS al) (zP al) rfl
 . conv=>lhs;whnf
 . conv=>lhs;whnf
 . rfl
 . conv=>lhs;whnf;arg 1;whnf
 . first | exact zu _ _
 . first | exact ha
 . exact fun _=>rfl
 . exact fun _=>rfl
|refine zA ?_
|refine zB ?_
|refine zH ?_
|apply aw_1
 conv=>whnf
 refine ⟨?_,trivial⟩
|apply s_1
 conv=>whnf;arg 1;arg 4;arg 3;whnf
 refine ⟨?_,?_⟩
|apply zS rfl rfl rfl
 . conv=>lhs;whnf
 . conv=>lhs;whnf;arg 1;whnf
 . conv=>lhs;whnf;arg 1;whnf
 . exact ⟨by kernel_rfl,by kernel_rfl⟩
 . rfl
|refine zM ?_
|refine zK rfl ?_
|refine zJ ?_
|apply zHE rfl
 . conv=>lhs;whnf;arg 2;whnf
|exact trivial)
   exact ⟨[boxN z.nd,boxS al (nxT z)],out_nx _ z,rfl,rfl,trivial⟩
 have hs:isS z [125]=false:=by simpa using hs
 have ha:=zDq hz hal hs
 have hm:=zEE hz hal
 have hf:=zCp hz hal 7
 have hnm:=zDp hz hal
 have hno:=zG2 hz hal
 by_cases hk:(hdT z).k=2
 . rw [show ((hdT z).k==2)=true by simpa using hk] at hm
   rw [fl_go hs hk]
   by_cases hd:(hdT z).s∈ks
   . have K:(decide ((bs (hdT z).s).data.toList∈ks))=false->False:=fun h=>of_decide_eq_false h hd
     rw [if_pos hd]
     repeat' (first
|apply s_look rfl rfl rfl
 . conv=>lhs;whnf
 . rfl
 . conv=>lhs;whnf
 . exact mapOk_
|apply s_m (clS al) (zP al) rfl
 . conv=>lhs;whnf
 . conv=>lhs;whnf
 . rfl
 . conv=>lhs;whnf;arg 1;whnf
 . first | exact zu _ _
 . first | exact ha | exact hm | exact hno
 . exact fun _=>rfl
 . exact fun _=>rfl
|apply zB8 [pn 1] rfl
 . conv=>lhs;whnf
 . first | exact hf
 . decide
 . rfl
 . rfl
 change _=Out.die _
|exact (K ‹_›).elim
|refine zA ?_
|refine zB ?_
|refine zH ?_
|apply aw_1
 conv=>whnf
 refine ⟨?_,trivial⟩
|apply s_1
 conv=>whnf;arg 1;arg 4;arg 3;whnf
 refine ⟨?_,?_⟩
|apply zS rfl rfl rfl
 . conv=>lhs;whnf
 . conv=>lhs;whnf;arg 1;whnf
 . conv=>lhs;whnf;arg 1;whnf
 . exact ⟨by kernel_rfl,by kernel_rfl⟩
 . rfl
|refine zZ (by conv=>lhs;whnf) ?_ ?_<;>intro hb
|exact trivial)
     rfl
   . have K:(decide ((bs (hdT z).s).data.toList∈ks))=true->False:=fun h=>hd (of_decide_eq_true h)
     rw [if_neg hd]
     have hnq:nameQ z = .ok ((hdT z).s,nxT z):=by rw [nameQ,if_pos hk]
     rw [hnq] at hnm
     have l1:=hz.name hnq
     have hex:=zBL l1.1 hal [58]
     have hv : ∀ {u:PS},takeQ [58] (nxT z) = .ok ((),u)->ACE EN5 Tryz.prog 202 [.bx (pn 0) 0,.c (.int .i64 ((lv+1:Nat):Int))] [boxN z.nd,boxS al u] (outV al (valueQ f (lv+1) u)):=fun {u} h=>by
      have h1:=ih _ (l1.1.take h).1
      have h2:u.nd=z.nd:=(take_nd h).trans (nx_nd0 z)
      rw [<- h2];exact h1
     repeat' (first
|apply s_look rfl rfl rfl
 . conv=>lhs;whnf
 . rfl
 . conv=>lhs;whnf
 . exact mapOk_
|apply s_mput rfl rfl rfl
 . conv=>lhs;whnf
 . rfl
 . conv=>lhs;whnf
 . rfl
 . exact mapOk_
|apply zBs 10 ([(1,[5])]) ([(5,[1000000,1000001]),(7,[901]),(9,[5])]) rfl (by kernel_rfl) (by kernel_rfl) (by kernel_rfl)
|apply zHK
|apply zHJ rfl
 . conv=>lhs;whnf
 . conv=>lhs;whnf;arg 2;whnf
|apply zIO rfl rfl
 . conv=>lhs;whnf
 . first | exact zC0 | exact zm | (conv=>lhs;whnf;arg 1;whnf)
 . first | exact fun _=>rfl | (intro _;kernel_rfl)
 . conv=>lhs;whnf
 . rfl
 . conv=>lhs;whnf;arg 1;whnf
 . conv=>lhs;whnf
|apply zCQ rfl rfl rfl
 . conv=>lhs;whnf
 . rfl
 . conv=>lhs;whnf;arg 1;whnf
 . conv=>lhs;whnf;arg 1;whnf
 . exact ⟨by kernel_rfl,by kernel_rfl⟩
 . rfl
|exact Or.inl ⟨pn 0,_,rfl⟩
|refine Or.inr ?_
|apply g_prN [pn 0,pn 1] (default:D) [.box 0 [.c (.tuple #[])],.box 0 [.c (.tuple #[])]] rfl
 . conv=>lhs;whnf
 . conv=>lhs;whnf
 . first | exact hv ‹_›
 . decide
 . rfl
 . rfl
 . exact fun _=>rfl
 . rfl
 . rfl
 refine fun ee hq tm rs => ?_
 change _=Out.die _
 rotate_left 1
 refine fun aa xx hq => ?_
 first | (cases hq;have hq:=True.intro) | skip
 rotate_left 1
 refine fun ee hq => ?_
 first | (cases hq;done) | skip
|show inO _ _=true;rfl
|apply zDx [aa] rfl rfl
 . conv=>lhs;whnf
 . first | exact zC0 | exact zm | (conv=>lhs;whnf;arg 1;whnf)
 . rfl
 . rfl
 . repeat' (first | exact trivial | apply And.intro | rfl)
|apply zDx [default] rfl rfl
 . conv=>lhs;whnf
 . first | exact zC0 | exact zm | (conv=>lhs;whnf;arg 1;whnf)
 . rfl
 . rfl
 . repeat' (first | exact trivial | apply And.intro | rfl)
|apply s_m (clS al) (zP al) rfl
 . conv=>lhs;whnf
 . conv=>lhs;whnf
 . rfl
 . conv=>lhs;whnf;arg 1;whnf
 . first | exact zu _ _
 . first | exact ha | exact hm | exact hno
 . exact fun _=>rfl
 . exact fun _=>rfl
|apply s_pr (clS al) (zP al) rfl
 . conv=>lhs;whnf
 . conv=>lhs;whnf
 . rfl
 . conv=>lhs;whnf;arg 1;whnf
 . first | exact zu _ _
 . first | exact hnm | exact hex
 . exact fun _=>rfl
 . first | (intro _ _;simp only [renL,renV,ren_cells];done) | exact fun _ _=>rfl
 refine fun ee hq => ?_
 change _=Out.die _
 rotate_left 1
 refine fun aa xx hq => ?_
 first | (replace hq:=zAM hq;obtain ⟨hq,rfl⟩:=hq) | (cases hq;have hq:=True.intro) | skip
|exact (K ‹_›).elim
|refine zA ?_
|refine zB ?_
|refine zH ?_
|refine zR ?_
|apply aw_1
 conv=>whnf
 refine ⟨?_,trivial⟩
|apply s_1
 conv=>whnf;arg 1;arg 4;arg 3;whnf
 refine ⟨?_,?_⟩
|apply zS rfl rfl rfl
 . conv=>lhs;whnf
 . conv=>lhs;whnf;arg 1;whnf
 . conv=>lhs;whnf;arg 1;whnf
 . exact ⟨by kernel_rfl,by kernel_rfl⟩
 . rfl
|apply zBf rfl rfl
 . conv=>lhs;whnf
 . first | exact zC0 | exact zm | (conv=>lhs;whnf;arg 1;whnf)
 . first | exact fun _=>rfl | (intro _;kernel_rfl)
 . conv=>lhs;whnf
 . conv=>lhs;whnf;arg 1;whnf
 . conv=>lhs;whnf
|apply zBb rfl rfl
 . conv=>lhs;whnf
 . first | exact zC0 | exact zm | (conv=>lhs;whnf;arg 1;whnf)
 . conv=>lhs;whnf;arg 1;whnf
 . rfl
 . rfl
|refine zZ (by conv=>lhs;whnf) ?_ ?_<;>intro hb
|exact trivial)
     all_goals first
      |exact zU (by omega)
      |(refine ⟨by simp,?_,?_⟩<;>simp only [List.length_map,List.length_cons,List.length_nil,maxLen]<;>omega)
      |(cases hq;done)
      |(unfold maxLen;omega)
      |(rw [zw (by assumption:takeQ [58] (nxT z)=_)];rfl)
      |(rw [zX (by assumption:takeQ [58] (nxT z)=_),zw hq];rfl)
      |skip
     rename_i u3 z3 htk
     have l2:=l1.1.take htk
     have l3:=l2.1.value hq
     refine zI (j':=j) (by omega) ⟨xx,ks++[(hdT z).s],acc++[aa],l3.1,by omega,by rw [List.length_append];simp only [List.length_cons,List.length_nil];omega,by rw [List.length_append,List.length_append,hka];rfl,by rw [zX htk,zX hq],Sub.live ⟨rfl,rfl,rfl,rfl,rfl,trivial⟩ ⟨rfl,rfl,rfl,?_,?_,?_,rfl,trivial⟩⟩
     . show some (Res.box _ [_,_,_,V.own 901 _ (acc++[aa]),V.own 902 _ (ks.map strD++[D.str (bs (hdT z).s)])])=some (Res.box _ [_,_,_,V.own 901 _ (acc++[aa]),V.own 902 _ ((ks++[(hdT z).s]).map strD)])
       rw [List.map_append];rfl
     . show some (Res.tok _ (acc.length+1))=some (Res.tok _ (acc++[aa]).length)
       rw [List.length_append];rfl
     . show some (Res.tok _ ((ks.map strD).length+1))=some (Res.tok _ ((ks++[(hdT z).s]).map strD).length)
       rw [List.map_append,List.length_append];rfl
 . rw [show ((hdT z).k==2)=false by simpa using hk] at hm
   have hne:nameQ z = .error ((hdT z).i,3):=by rw [nameQ,if_neg hk]
   rw [hne] at hnm
   rw [fl_nm (by rw [hs];rfl) hne]
   repeat' (first
|apply s_m (clS al) (zP al) rfl
 . conv=>lhs;whnf
 . conv=>lhs;whnf
 . rfl
 . conv=>lhs;whnf;arg 1;whnf
 . first | exact zu _ _
 . first | exact ha | exact hm
 . exact fun _=>rfl
 . exact fun _=>rfl
|apply s_pr (clS al) (zP al) rfl
 . conv=>lhs;whnf
 . conv=>lhs;whnf
 . rfl
 . conv=>lhs;whnf;arg 1;whnf
 . first | exact zu _ _
 . first | exact hnm
 . exact fun _=>rfl
 . first | (intro _ _;simp only [renL,renV,ren_cells];done) | exact fun _ _=>rfl
 refine fun ee hq => ?_
 change _=Out.die _
 rotate_left 1
 refine fun aa xx hq => ?_
 first | (replace hq:=zAM hq;obtain ⟨hq,rfl⟩:=hq) | (cases hq;have hq:=True.intro) | skip
|refine zA ?_
|refine zB ?_
|refine zH ?_
|apply aw_1
 conv=>whnf
 refine ⟨?_,trivial⟩
|apply s_1
 conv=>whnf;arg 1;arg 4;arg 3;whnf
 refine ⟨?_,?_⟩
|exact trivial)
   have e:(Except.error ((hdT z).i,3):PR (List UInt8))=Except.error ee:=by assumption
   cases e;rfl
end
end
section
open Go.RowKit
attribute [local irreducible] wpList Calls Code.wp AW AWo OpOk seqK zz z8 loopK endK AC zl Yld Sub
attribute [local irreducible] ACB ACX ACE absLexG YldG YldU
noncomputable def HuA (al:List Tok) (lv:Nat) (x:PS) (t:Tok):Vst 106:=
 stS 106 [(0,.bx (pn 0) 0),(1,.c (.int .i64 (lv:Int))),(4,.bx 4 0),(5,.bx 5 0)] [(pn 0,boxN x.nd),(pn 1,boxS al x),(4,.box 53 zVal),(5,.box 89 (tokC t))]
theorem noValS {x:PS} (hv:x.vr=false):zCN x=((hdT x).k==5||((hdT x).k==1 && !((bs (hdT x).s).toList==(⟨#[91]⟩:ByteArray).toList) && !((bs (hdT x).s).toList==(⟨#[123]⟩:ByteArray).toList))):=by
 unfold zCN isS
 rw [hv,Lib.toList_data,zAq,Lib.toList_data,Lib.toList_data]
 show _=((hdT x).k==5||((hdT x).k==1 && !((hdT x).s==[91]) && !((hdT x).s==[123])))
 cases (hdT x).k==5<;>cases (hdT x).k==1<;>cases (hdT x).s==[91]<;>cases (hdT x).s==[123]<;>rfl
section
variable {a b c d:Bool}
theorem nv_1 (h:(a||(b && !c && !d))=true) (ha:(a==false)=true) (hb:(b==true)=false):False:=by cases a<;>cases b<;>simp_all
theorem nv_2 (h:(a||(b && !c && !d))=true) (ha:(a==false)=true) (hc:((!c)==true)=false):False:=by cases a<;>cases c<;>simp_all
theorem nv_3 (h:(a||(b && !c && !d))=true) (ha:(a==false)=true) (hd:(!d)=false):False:=by cases a<;>cases d<;>simp_all
theorem nv_4 (h:(a||(b && !c && !d))=false) (ha:(a==false)=false):False:=by cases a<;>simp_all
theorem nv_5 (h:(a||(b && !c && !d))=false) (hb:(b==true)=true) (hc:((!c)==true)=true) (hd:(!d)=true):False:=by cases a<;>cases b<;>cases c<;>cases d<;>simp_all
end
theorem Sx.kd {al:List Tok} {x:PS} (h:Sx al x) (hkd:Kd al):1<=(hdT x).k/\(hdT x).k<=5:=by
 have h1:=h.pos
 have h2:=h.len
 rw [<- h.hd]
 exact hkd _ (by omega)
theorem zJC {al:List Tok} (hal:al.length<=100000) (hkd:Kd al) : ∀ (f lv:Nat) (x:PS),Sx al x->f+lv=26->lv<=25->ACE EN5 Tryz.prog 202 [.bx (pn 0) 0,.c (.int .i64 (lv:Int))] (bsV al x) (outV al (valueQ f lv x))
 |0,lv,x,h,hf,h25=>by omega
 |f+1,lv,x,h,hf,h25=>by
  have hn:=zG2 h hal
  have hf3:=zCp h hal 3
  have hf4:=zCp h hal 4
  have hf5:=zCp h hal 5
  have hvs:=noValS h.vr
  by_cases hnv:zCN x=true
  . have hv:=value_bad (f:=f) (lv:=lv) hnv
    rw [hvs] at hnv
    rw [hv]
    refine zo (fn:=Tryz.f202) 106 Tryz.func202 rfl rfl ?_
    intro pas w0 w he hp
    repeat' (first
|apply zAj rfl rfl rfl
 . conv=>lhs;whnf
 . first | rfl | assumption
 . conv=>lhs;whnf
 . first | exact bT1 ‹_› | exact bT2 ‹_› | rfl
|apply zAe rfl rfl rfl
 . conv=>lhs;whnf
 . first | rfl | assumption
 . conv=>lhs;whnf
 . first | exact bF1 ‹_› | exact bF2 ‹_› | rfl
|apply s_m (clS al) (zP al) rfl
 . conv=>lhs;whnf
 . conv=>lhs;whnf
 . rfl
 . conv=>lhs;whnf;arg 1;whnf
 . first | exact zu _ _
 . first | exact hn
 . exact fun _=>rfl
 . exact fun _=>rfl
|apply zr rfl
 . conv=>lhs;whnf
 . conv=>lhs;whnf
 . first | rfl | assumption
|apply zHt rfl
 . conv=>lhs;whnf
 . rfl
 . rfl
|apply zB8 [pn 1] rfl
 . conv=>lhs;whnf
 . first | exact hf3
 . decide
 . rfl
 . rfl
 change _=Out.die _
|exact (nv_1 hnv ‹_› ‹_›).elim
|exact (nv_2 hnv ‹_› ‹_›).elim
|exact (nv_3 hnv ‹_› ‹_›).elim
|refine zA ?_
|refine zB ?_
|refine zH ?_
|apply aw_1
 conv=>whnf
 refine ⟨?_,trivial⟩
|apply zq rfl rfl
 . conv=>lhs;whnf
 . conv=>lhs;whnf
 . first | exact bT1 ‹_› | exact bT2 ‹_›
|apply za rfl rfl
 . conv=>lhs;whnf
 . conv=>lhs;whnf
 . first | exact bF1 ‹_› | exact bF2 ‹_›
|apply s_1
 conv=>whnf;arg 1;arg 4;arg 3;whnf
 refine ⟨?_,?_⟩
|apply zS rfl rfl rfl
 . conv=>lhs;whnf
 . conv=>lhs;whnf;arg 1;whnf
 . conv=>lhs;whnf;arg 1;whnf
 . exact ⟨by kernel_rfl,by kernel_rfl⟩
 . rfl
|apply zL rfl
 . conv=>lhs;whnf
 . conv=>lhs;whnf
 . first | rfl | assumption
 . conv=>lhs;whnf;arg 2;whnf
|apply zF rfl
 . conv=>lhs;whnf
 . conv=>lhs;whnf
 . conv=>lhs;whnf;arg 2;whnf
|refine zZ (by conv=>lhs;whnf) ?_ ?_<;>intro hb
|exact trivial
|intro hg)
    all_goals rfl
  have hnv:zCN x=false:=by simpa using hnv
  have hv5:=value_deep (f:=f) (lv:=lv) hnv
  have hv4:=value_big (f:=f) (lv:=lv) hnv
  have hvg:=value_go (f:=f) (lv:=lv) hnv
  rw [hvs] at hnv
  by_cases h24:24<lv
  . have K:decide ((lv:Int)>24)=false->False:=fun h=>by simp at h;omega
    rw [hv5 h24]
    refine zo (fn:=Tryz.f202) 106 Tryz.func202 rfl rfl ?_
    intro pas w0 w he hp
    repeat' (first
|apply zAj rfl rfl rfl
 . conv=>lhs;whnf
 . first | rfl | assumption
 . conv=>lhs;whnf
 . first | exact bT1 ‹_› | exact bT2 ‹_› | rfl
|apply zAe rfl rfl rfl
 . conv=>lhs;whnf
 . first | rfl | assumption
 . conv=>lhs;whnf
 . first | exact bF1 ‹_› | exact bF2 ‹_› | rfl
|apply s_m (clS al) (zP al) rfl
 . conv=>lhs;whnf
 . conv=>lhs;whnf
 . rfl
 . conv=>lhs;whnf;arg 1;whnf
 . first | exact zu _ _
 . first | exact hn
 . exact fun _=>rfl
 . exact fun _=>rfl
|apply zr rfl
 . conv=>lhs;whnf
 . conv=>lhs;whnf
 . first | rfl | assumption
|apply zHt rfl
 . conv=>lhs;whnf
 . rfl
 . rfl
|apply zB8 [pn 1] rfl
 . conv=>lhs;whnf
 . first | exact hf5
 . decide
 . rfl
 . rfl
 change _=Out.die _
|exact (nv_4 hnv ‹_›).elim
|exact (nv_5 hnv ‹_› ‹_› ‹_›).elim
|exact (K ‹_›).elim
|apply z7 4 (HuA al lv x (hdT x)) rfl
|refine zCB ?_
|refine zA ?_
|refine zB ?_
|refine zH ?_
|apply aw_1
 conv=>whnf
 refine ⟨?_,trivial⟩
|apply za rfl rfl
 . conv=>lhs;whnf
 . conv=>lhs;whnf
 . first | exact bF1 ‹_› | exact bF2 ‹_›
|apply s_1
 conv=>whnf;arg 1;arg 4;arg 3;whnf
 refine ⟨?_,?_⟩
|apply zS rfl rfl rfl
 . conv=>lhs;whnf
 . conv=>lhs;whnf;arg 1;whnf
 . conv=>lhs;whnf;arg 1;whnf
 . exact ⟨by kernel_rfl,by kernel_rfl⟩
 . rfl
|apply zL rfl
 . conv=>lhs;whnf
 . conv=>lhs;whnf
 . first | rfl | assumption
 . conv=>lhs;whnf;arg 2;whnf
|apply zF rfl
 . conv=>lhs;whnf
 . conv=>lhs;whnf
 . conv=>lhs;whnf;arg 2;whnf
|refine zZ (by conv=>lhs;whnf) ?_ ?_<;>intro hb
|exact trivial
|intro hg)
    all_goals first
     |rfl
     |exact Sub.live ⟨rfl,rfl,rfl,rfl,trivial⟩ ⟨rfl,rfl,rfl,rfl,trivial⟩
  have K24:decide ((lv:Int)>24)=true->False:=fun h=>by simp at h;omega
  have hmn:Nat.min x.nd 4096<=4096:=Nat.min_le_right _ _
  by_cases hnd:4096<=x.nd
  . have hme:Nat.min x.nd 4096=4096:=Nat.min_eq_right hnd
    have K:decide (((Nat.min x.nd 4096:Nat):Int)+1>4096)=false->False:=fun h=>by have h:=of_decide_eq_false h;omega
    rw [hv4 h24 hnd]
    refine zo (fn:=Tryz.f202) 106 Tryz.func202 rfl rfl ?_
    intro pas w0 w he hp
    repeat' (first
|apply zAj rfl rfl rfl
 . conv=>lhs;whnf
 . first | rfl | assumption
 . conv=>lhs;whnf
 . first | exact bT1 ‹_› | exact bT2 ‹_› | rfl
|apply zAe rfl rfl rfl
 . conv=>lhs;whnf
 . first | rfl | assumption
 . conv=>lhs;whnf
 . first | exact bF1 ‹_› | exact bF2 ‹_› | rfl
|apply s_m (clS al) (zP al) rfl
 . conv=>lhs;whnf
 . conv=>lhs;whnf
 . rfl
 . conv=>lhs;whnf;arg 1;whnf
 . first | exact zu _ _
 . first | exact hn
 . exact fun _=>rfl
 . exact fun _=>rfl
|apply zr rfl
 . conv=>lhs;whnf
 . conv=>lhs;whnf
 . first | rfl | assumption
|apply zHt rfl
 . conv=>lhs;whnf
 . rfl
 . rfl
|apply zB8 [pn 1] rfl
 . conv=>lhs;whnf
 . first | exact hf4
 . decide
 . rfl
 . rfl
 change _=Out.die _
|exact (nv_4 hnv ‹_›).elim
|exact (nv_5 hnv ‹_› ‹_› ‹_›).elim
|exact (K24 ‹_›).elim
|exact (K ‹_›).elim
|apply z7 4 (HuA al lv x (hdT x)) rfl
|refine zCB ?_
|refine zA ?_
|refine zB ?_
|refine zH ?_
|apply aw_1
 conv=>whnf
 refine ⟨?_,trivial⟩
|apply za rfl rfl
 . conv=>lhs;whnf
 . conv=>lhs;whnf
 . first | exact bF1 ‹_› | exact bF2 ‹_›
|apply s_1
 conv=>whnf;arg 1;arg 4;arg 3;whnf
 refine ⟨?_,?_⟩
|apply zS rfl rfl rfl
 . conv=>lhs;whnf
 . conv=>lhs;whnf;arg 1;whnf
 . conv=>lhs;whnf;arg 1;whnf
 . exact ⟨by kernel_rfl,by kernel_rfl⟩
 . rfl
|apply zL rfl
 . conv=>lhs;whnf
 . conv=>lhs;whnf
 . first | rfl | assumption
 . conv=>lhs;whnf;arg 2;whnf
|apply zF rfl
 . conv=>lhs;whnf
 . conv=>lhs;whnf
 . conv=>lhs;whnf;arg 2;whnf
|refine zZ (by conv=>lhs;whnf) ?_ ?_<;>intro hb
|exact trivial
|intro hg)
    all_goals first
     |exact zU (by omega)
     |rfl
     |exact Sub.live ⟨rfl,rfl,rfl,rfl,trivial⟩ ⟨rfl,rfl,rfl,rfl,trivial⟩
  have hme:Nat.min x.nd 4096=x.nd:=Nat.min_eq_left (by omega)
  have Knd:decide (((Nat.min x.nd 4096:Nat):Int)+1>4096)=true->False:=fun h=>by have h:=of_decide_eq_true h;omega
  obtain ⟨y,hye⟩ : ∃ y,y=nxT ⟨x.ts,x.vr,x.nd+1⟩:=⟨_,rfl⟩
  have hk5:(hdT x).k≠5:=fun e=>by rw [e] at hnv;cases hnv
  have h':Sx al ⟨x.ts,x.vr,x.nd+1⟩:=⟨h.en,h.vr,h.sf⟩
  have hy:Sx al y:=by rw [hye];exact (h'.nx hk5).1
  have hyd:y.nd=x.nd+1:=by rw [hye];exact nx_nd0 _
  have hyc:=etaS1 h' hk5
  rw [<- hye] at hyc
  have hmy:((Nat.min x.nd 4096:Nat):Int)+1=((Nat.min y.nd 4096:Nat):Int):=by rw [hyd,show Nat.min (x.nd+1) 4096=x.nd+1 from Nat.min_eq_left (by omega),hme];rfl
  have hgo:=hvg h24 hnd
  rw [<- hye] at hgo
  rw [hgo]
  have hxl:=h.len
  have hkk:=h.kd hkd
  have hnu:=zGI (bs (hdT x).s) (by rw [zW];have:=h.en.hd;omega)
  have hvt:=vText_ac (hdT x).s
  have hvi:=vInt_ac (numQ (hdT x).s)
  have hw:=p_word (hdT x).s
  have hl:=p_list (f:=f) (lv:=lv) (fun z hz=>zJC hal hkd f (lv+1) z hz (by omega) (by omega)) (by omega) hy hal
  have ho:=p_object (f:=f) (lv:=lv) (fun z hz=>zJC hal hkd f (lv+1) z hz (by omega) (by omega)) (by omega) hy hal
  have h36:((hdT x).k==3)=false->((hdT x).k==4)=false->((hdT x).k==2)=false->((bs (hdT x).s).toList==(⟨#[36]⟩:ByteArray).toList)=false:=fun h3 h4 h2=>by
   have e1:(hdT x).k=1:=by
    have h3:(hdT x).k≠3:=by simpa using h3
    have h4:(hdT x).k≠4:=by simpa using h4
    have h2:(hdT x).k≠2:=by simpa using h2
    omega
   cases hq:((bs (hdT x).s).toList==(⟨#[36]⟩:ByteArray).toList) with
   |false=>rfl
   |true =>
    have e2:=zFB hq
    rw [e1,e2,Lib.toList_data,zAq,Lib.toList_data,Lib.toList_data] at hnv
    revert hnv
    decide
  refine zo (fn:=Tryz.f202) 106 Tryz.func202 rfl rfl ?_
  intro pas w0 w he hp
  repeat' (first
|apply zAj rfl rfl rfl
 . conv=>lhs;whnf
 . first | rfl | assumption
 . conv=>lhs;whnf
 . first | exact bT1 ‹_› | exact bT2 ‹_› | rfl
|apply zAe rfl rfl rfl
 . conv=>lhs;whnf
 . first | rfl | assumption
 . conv=>lhs;whnf
 . first | exact bF1 ‹_› | exact bF2 ‹_› | rfl
|apply s_m (clS al) (zP al) rfl
 . conv=>lhs;whnf
 . conv=>lhs;whnf
 . rfl
 . conv=>lhs;whnf;arg 1;whnf
 . first | exact zu _ _
 . first | exact hn
 . exact fun _=>rfl
 . exact fun _=>rfl
|apply zr rfl
 . conv=>lhs;whnf
 . conv=>lhs;whnf
 . first | rfl | assumption
|apply zHt rfl
 . conv=>lhs;whnf
 . rfl
 . rfl
|apply zGu [pn 0,pn 1] rfl
 . conv=>lhs;whnf
 . conv=>lhs;whnf
 . first | exact hl | exact ho
 . decide
 . rfl
 . rfl
 refine fun ee hq => ?_
 change _=Out.die _
 rotate_left 1
 refine fun aa xx hq => ?_
 first | (cases hq;have hq:=True.intro) | skip
|exact (nv_4 hnv ‹_›).elim
|exact (nv_5 hnv ‹_› ‹_› ‹_›).elim
|exact (K24 ‹_›).elim
|exact (Knd ‹_›).elim
|apply z7 4 (HuA al lv x (hdT x)) rfl
|apply z7 10 (HuA al lv y (hdT x)) rfl
|refine zCB ?_
|refine zA ?_
|refine zB ?_
|refine zH ?_
|refine zR ?_
|apply aw_1
 conv=>whnf
 refine ⟨?_,trivial⟩
|apply za rfl rfl
 . conv=>lhs;whnf
 . conv=>lhs;whnf
 . first | exact bF1 ‹_› | exact bF2 ‹_›
|apply s_1
 conv=>whnf;arg 1;arg 4;arg 3;whnf
 refine ⟨?_,?_⟩
|apply ze rfl
 . conv=>lhs;whnf
 . conv=>lhs;whnf
 . first | exact hnu | exact hvt | exact hvi | exact hw
|apply zS rfl rfl rfl
 . conv=>lhs;whnf
 . conv=>lhs;whnf;arg 1;whnf
 . conv=>lhs;whnf;arg 1;whnf
 . exact ⟨by kernel_rfl,by kernel_rfl⟩
 . rfl
|apply zL rfl
 . conv=>lhs;whnf
 . conv=>lhs;whnf
 . first | rfl | assumption
 . conv=>lhs;whnf;arg 2;whnf
|apply zF rfl
 . conv=>lhs;whnf
 . conv=>lhs;whnf
 . conv=>lhs;whnf;arg 2;whnf
|refine zZ (by conv=>lhs;whnf) ?_ ?_<;>intro hb
|refine zO ?_
|refine zQ ?_
|apply zHE rfl
 . conv=>lhs;whnf;arg 2;whnf
|exact trivial
|intro hg)
  all_goals first
   |exact zU (by omega)
   |exact Sub.live ⟨rfl,rfl,rfl,rfl,trivial⟩ ⟨rfl,rfl,rfl,rfl,trivial⟩
   |exact Sub.live ⟨rfl,rfl,rfl,rfl,trivial⟩ ⟨congrArg (fun c=>some (Res.box _ [_,.c (.int .i64 c)])) hmy,congrArg (fun c=>some (Res.box _ c)) hyc,rfl,rfl,trivial⟩
   |(rw [vt_3 ‹_›];exact ⟨bsV al y,rfl,rfl,rfl,trivial⟩)
   |(rw [vt_4 ‹_› ‹_›];exact ⟨bsV al y,rfl,rfl,rfl,trivial⟩)
   |(rw [vt_2 ‹_› ‹_› ‹_›];exact ⟨bsV al y,rfl,rfl,rfl,trivial⟩)
   |(rw [vt_l ‹_› ‹_› ‹_› (h36 ‹_› ‹_› ‹_›) ‹_›,hq];first | rfl | exact ⟨_,rfl,rfl,rfl,trivial⟩)
   |(rw [vt_o ‹_› ‹_› ‹_› (h36 ‹_› ‹_› ‹_›) ‹_›,hq];first | rfl | exact ⟨_,rfl,rfl,rfl,trivial⟩)
   |skip
end
end Go.Proofs.YthppafnlnnpciaaGreatDoor
