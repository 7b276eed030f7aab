import Derived.Test.YthppafnlnnpciaaGreatDoorV26
import Derived.Test.YthppafnlnnpciaaGreatDoorV40
import Derived.Test.YthppafnlnnpciaaGreatDoorV41
import Derived.Test.YthppafnlnnpciaaGreatDoorV42
import Derived.Test.YthppafnlnnpciaaGreatDoorV44
import Derived.Test.YthppafnlnnpciaaGreatDoorV50
set_option maxHeartbeats 20000000
set_option maxRecDepth 100000
set_option linter.unusedVariables false
set_option linter.unusedSimpArgs false
namespace Go.Proofs.YthppafnlnnpciaaGreatDoor
section
open Go.RowKit
set_option linter.unusedSectionVars false
def dfs6:Except (Nat × Int) D->List D
 |.ok q=>(q.f 0).l
 |.error _=>[]
def at6:Except (Nat × Int) D->Nat
 |.ok _=>0
 |.error x=>x.1
def er6:Except (Nat × Int) D->Int
 |.ok _=>0
 |.error x=>x.2
theorem parse6_ac (s:List UInt8) (hs:s.length<=4000000000):AC EN5 Tryz.prog 10 [.c (.string (bs s))] (.tup [.agg [.sl 45 (dfs6 (parseD s))],.c (.int .i64 (at6 (parseD s):Int)),.c (.int .i64 (er6 (parseD s)))]):=by
 refine (parseD_ac s hs).res ?_
 cases parseD s with
 |ok q=>exact .refl _
 |error x=>exact .tup (.cons (.agg (.cons (.nil _) .nil)) (.cons (.refl _) (.cons (.refl _) .nil)))
attribute [local irreducible] wpList Calls Code.wp AW AWo OpOk seqK zz z8 loopK endK AC zl Yld Sub
attribute [local irreducible] ACB ACX ACE absLexG YldG absLexH
section
variable (hEx:AC EN5 Tryz.prog 9 [] (.c (.bool true)))
include hEx
section
variable (s t:List UInt8) (hs:s.length<=4000) (ht:t.length<=4000)
include hs ht
end
end
end
section
open Go.RowKit
set_option linter.unusedSectionVars false
theorem doc_names {j:Nat} {d:D} (h:Fits Tryz.prog j 25 d) : ∀ i,i<(d.f 0).l.length -> ∀ k,k<((gD (d.f 0).l i).f 2).l.length -> ∃ s,gD ((gD (d.f 0).l i).f 2).l k = .str s:=by
 obtain ⟨j,l,rfl,hl,hf⟩:=zCE Tryz.underlying25 h
 have hl:l.length=1:=hl
 obtain ⟨j0,l0,e0,h0⟩:=zA8 Tryz.underlying23 (hf 0 _ rfl)
 show ∀ i,i<(gD l 0).l.length -> ∀ k,k<((gD (gD l 0).l i).f 2).l.length -> ∃ s,gD ((gD (gD l 0).l i).f 2).l k = .str s
 rw [e0]
 show ∀ i,i<l0.length -> ∀ k,k<((gD l0 i).f 2).l.length -> ∃ s,gD ((gD l0 i).f 2).l k = .str s
 intro i hi k hk
 obtain ⟨j1,l1,e1,-,hf1⟩:=zCE Tryz.underlying45 (h0 i hi)
 rw [e1] at hk |-
 obtain ⟨j2,l2,e2,h2⟩:=zA8 Tryz.underlying39 (hf1 2 _ rfl)
 have hk:k<(gD l1 2).l.length:=hk
 show ∃ s,gD (gD l1 2).l k = .str s
 rw [e2] at hk |-
 exact zCD (h2 k hk)
attribute [local irreducible] wpList Calls Code.wp AW AWo OpOk seqK zz z8 loopK endK AC zl Yld Sub
attribute [local irreducible] ACB ACX ACE absLexG YldG absLexH
theorem zI5 {j:Nat} (d:D) (hf:Fits Tryz.prog j 25 d) (hw:wideD d) (hb:bulkD d<=1048576):AC EN5 Tryz.prog 8 [.agg (cellsV Tryz.prog 12 25 d)] (.c (.bool true)):=by
 have h1:=(large7_ac d hb).five
 have h2:=(zGt d).five
 have hEx:=exam7_ac.five
 cases hl:zGN (d.f 0).l with
 |true =>
  rw [hl] at h1
  refine zN 49 Tryz.func8 rfl rfl rfl rfl ?_
  intro s w he
  repeat' (first
|refine zA ?_
|refine zB ?_
|refine zH ?_
|apply aw_1
 conv=>whnf
 refine ⟨?_,trivial⟩
|apply s_1
 conv=>whnf;arg 1;arg 4;arg 3;whnf
 refine ⟨?_,?_⟩
|apply ze rfl
 . conv=>lhs;whnf
 . conv=>lhs;whnf
 . first | exact h1 | exact h2 | exact hEx
|apply zAL rfl rfl rfl rfl
 . conv=>lhs;whnf;arg 1;whnf
 . rfl
|refine zO ?_
|refine zE ?_
|refine ⟨_,by conv=>lhs;whnf;arg 2;whnf,?_⟩;conv=>rhs;whnf
|exact trivial)
  all_goals first
   |rfl
   |exact (show Tryz.prog.underlying 4=some TypeDesc.bool by kernel_rfl)
   |skip
 |false =>
 rw [hl] at h1
 clear hl
 cases hR:docY litW (d.f 0).l with
 |false =>
  rw [hR] at h2
  refine zN 49 Tryz.func8 rfl rfl rfl rfl ?_
  intro s w he
  repeat' (first
|refine zA ?_
|refine zB ?_
|refine zH ?_
|apply aw_1
 conv=>whnf
 refine ⟨?_,trivial⟩
|apply s_1
 conv=>whnf;arg 1;arg 4;arg 3;whnf
 refine ⟨?_,?_⟩
|apply ze rfl
 . conv=>lhs;whnf
 . conv=>lhs;whnf
 . first | exact h1 | exact h2 | exact hEx
|apply zAL rfl rfl rfl rfl
 . conv=>lhs;whnf;arg 1;whnf
 . rfl
|apply zY rfl
 . conv=>lhs;whnf
 . conv=>lhs;whnf
 . first | rfl | assumption
 . conv=>lhs;whnf
 . first | exact h1 | exact h2 | exact hEx
|refine zO ?_
|refine zE ?_
|refine ⟨_,by conv=>lhs;whnf;arg 2;whnf,?_⟩;conv=>rhs;whnf
|exact trivial)
  all_goals first
   |rfl
   |exact (show Tryz.prog.underlying 4=some TypeDesc.bool by kernel_rfl)
   |skip
 |true =>
  rw [hR] at h2
  have hbl:bulkL (d.f 0).l<=1048576:=bk_l (bk_f hb 0)
  have hY:=docY_small hbl hR
  obtain ⟨hn1,-,hp⟩:=docP hY
  have f0:(((d.f 0).l.length:Int)==0)=false:=by rw [beq_eq_false_iff_ne];omega
  have h3:=(zGC hp (doc_names hf) hw hb).five
  by_cases hlen:65536<(sdlT K6 (d.f 0).l).length
  . have f2:decide (((bs (sdlT K6 (d.f 0).l)).size:Int)>65536)=true:=decide_eq_true (by rw [zW];omega)
    refine zN 49 Tryz.func8 rfl rfl rfl rfl ?_
    intro s w he
    repeat' (first
|apply zG
 . conv=>lhs;whnf
 . assumption
|apply zC
 . conv=>lhs;whnf
 . assumption
|refine zA ?_
|refine zB ?_
|refine zH ?_
|apply aw_1
 conv=>whnf
 refine ⟨?_,trivial⟩
|apply s_1
 conv=>whnf;arg 1;arg 4;arg 3;whnf
 refine ⟨?_,?_⟩
|apply ze rfl
 . conv=>lhs;whnf
 . conv=>lhs;whnf
 . first | exact h1 | exact h2 | exact h3 | exact hEx
|apply zAL rfl rfl rfl rfl
 . conv=>lhs;whnf;arg 1;whnf
 . rfl
|apply zY rfl
 . conv=>lhs;whnf
 . conv=>lhs;whnf
 . first | rfl | assumption
 . conv=>lhs;whnf
 . first | exact h1 | exact h2 | exact h3 | exact hEx
|refine zO ?_
|refine zE ?_
|refine ⟨_,by conv=>lhs;whnf;arg 2;whnf,?_⟩;conv=>rhs;whnf
|exact trivial)
    all_goals first
     |rfl
     |exact (show Tryz.prog.underlying 4=some TypeDesc.bool by kernel_rfl)
     |skip
  have f2:decide (((bs (sdlT K6 (d.f 0).l)).size:Int)>65536)=false:=decide_eq_false (by rw [zW];omega)
  have hpd:=parse_sdlT (K:=K6) (Nat.le_refl _) hY (hw.f 0).l hbl (by omega)
  rw [<- doc_id hf hY] at hpd
  have h4:=parse6_ac (sdlT K6 (d.f 0).l) (by omega)
  rw [hpd] at h4
  have h4:AC EN5 Tryz.prog 10 [.c (.string (bs (sdlT K6 (d.f 0).l)))] (.tup [.agg (cellsV Tryz.prog 12 25 d),.c (.int .i64 0),.c (.int .i64 0)]):=h4
  have h5:=sameS7_ac d (by omega)
  have g1:=seq7t (bs (sdlT K6 (d.f 0).l))
  have K1:(((bs (sdlT K6 (d.f 0).l)).toList==(bs (sdlT K6 (d.f 0).l)).toList)==true)=false->False:=fun h=>by rw [g1] at h;cases h
  have K2:((bs (sdlT K6 (d.f 0).l)).toList==(bs (sdlT K6 (d.f 0).l)).toList)=false->False:=fun h=>by rw [g1] at h;cases h
  refine zN 49 Tryz.func8 rfl rfl rfl rfl ?_
  intro s w he
  repeat' (first
|apply zC
 . conv=>lhs;whnf
 . assumption
|exact (K1 ‹_›).elim
|refine zA ?_
|refine zB ?_
|refine zH ?_
|apply aw_1
 conv=>whnf
 refine ⟨?_,trivial⟩
|apply zq rfl rfl
 . conv=>lhs;whnf
 . conv=>lhs;whnf
 . first | exact bT1 ‹_› | exact bT2 ‹_›
|apply s_1
 conv=>whnf;arg 1;arg 4;arg 3;whnf
 refine ⟨?_,?_⟩
|apply ze rfl
 . conv=>lhs;whnf
 . conv=>lhs;whnf
 . first | exact h1 | exact h2 | exact h3 | exact h4 | exact h5 | exact hEx
|apply zAL rfl rfl rfl rfl
 . conv=>lhs;whnf;arg 1;whnf
 . rfl
|apply zS rfl rfl rfl
 . conv=>lhs;whnf
 . conv=>lhs;whnf;arg 1;whnf
 . conv=>lhs;whnf;arg 1;whnf
 . exact ⟨by kernel_rfl,by kernel_rfl⟩
 . rfl
|apply zY rfl
 . conv=>lhs;whnf
 . conv=>lhs;whnf
 . first | rfl | assumption
 . conv=>lhs;whnf
 . first | exact h1 | exact h2 | exact h3 | exact h4 | exact h5 | exact hEx
|apply zGv rfl
 . conv=>lhs;whnf
 . conv=>lhs;whnf
 . conv=>lhs;whnf
 . first | exact h1 | exact h2 | exact h3 | exact h4 | exact h5 | exact hEx
|refine zE ?_
|refine ⟨_,by conv=>lhs;whnf;arg 2;whnf,?_⟩;conv=>rhs;whnf
|exact trivial
|intro hg)
  all_goals first
   |rfl
   |exact (show Tryz.prog.underlying 4=some TypeDesc.bool by kernel_rfl)
   |skip
end
section
open Go.ChangeShapes Go.WideShapes Go.ChangeAt Go.RowKit
attribute [local irreducible] wpList Calls Code.wp
def closedB (P:Program) (S:List TypeId):Bool:=S.all fun t=>match P.underlying t with
 |some .bool=>true
 |some .string=>true
 |some (.int q)=>match q with | .i64=>true | _=>false
 |some (.slice e)=>S.contains e&&Nat.blt 0 (P.cellsOf e)
 |some (.struct fs)=>fs.toList.all fun f=>S.contains f.type
 |_=>false
theorem zGf : ∀ {l:List D},(∀ i,i<l.length->wideD (gD l i))->wideL l
 |[],_=>trivial
 |d::r,h=>⟨h 0 (by simp),zGf fun i hi=>by
  have:=h (i+1) (by simpa using hi)
  simpa [gD] using this⟩
theorem zIr {P:Program} {w:World} {I:Nat->Prop} {S:List TypeId} (hS:closedB P S=true) : ∀ {k:Nat} {t:TypeId} {cs:List Value} {d:D},S.contains t=true->Rep P w I k t cs d->Fits P k t d->wideD d
 |0,_,_,_,_,h,_=>h.elim
 |k+1,t,cs,d,ht,hr,hf=>by
  have hc:=List.all_eq_true.1 hS t (List.contains_iff_mem.1 ht)
  unfold Rep at hr
  unfold Fits at hf
  split at hr
  . rename_i hu
    rw [hu] at hf
    obtain ⟨b,rfl⟩:=hf
    trivial
  . rename_i q hu
    rw [hu] at hf hc
    obtain ⟨n,rfl⟩:=hf
    obtain ⟨-,hw⟩:=hr
    cases q<;>simp at hc
    have hw:(Lit.int IntKind.i64 n).wf=true:=hw
    show i64D n
    rw [zCg] at hw
    simp [IntKind.min,IntKind.max,IntKind.signed,IntKind.bits] at hw
    unfold i64D
    omega
  . rename_i hu
    rw [hu] at hf
    obtain ⟨s,rfl⟩:=hf
    trivial
  . rename_i e hu
    rw [hu] at hf hc
    obtain ⟨l,rfl,hfl⟩:=hf
    simp only [Bool.and_eq_true] at hc
    obtain ⟨A,c,-,-,-,-,hi⟩:=hr
    show wideL l
    refine zGf fun i hl => ?_
    obtain ⟨b,off,-,-,hel⟩:=hi (by show 0<l.length;omega) (Nat.le_of_ble_eq_true hc.2)
    obtain ⟨ys,-,-,hy⟩:=hel i hl
    exact zIr hS hc.1 hy (hfl i hl)
  . rename_i fs hu
    rw [hu] at hf hc
    obtain ⟨l,rfl,hl,hfl⟩:=hf
    show wideL l
    refine zGf fun i hi => ?_
    have hfi:fs[i]? = some (fs[i]'(by omega)):=Array.getElem?_eq_getElem (by omega)
    have hmem:=List.all_eq_true.1 hc (fs[i]'(by omega)) (by simp)
    exact zIr hS hmem (hr.2 i _ hfi) (hfl i _ hfi)
  . rename_i h1 h2 h3 h4 h5
    exfalso
    split at hc
    . exact h1 ‹_›
    . exact h3 ‹_›
    . exact h2 _ ‹_›
    . exact h4 _ ‹_›
    . exact h5 _ ‹_›
    . cases hc
theorem arg_in {H:Type} {enc:TypeId × Value->H} {W:World} {v:Value} {base:Nat} {dw:DataW H} {ps:List MemPlace} {t:TypeId} {fs:Array Field} (ht:Tryz.prog.underlying t=some (.struct fs)) (hv:Value.okWide Tryz.prog W .any base t v)
 (hd:DataW.Trod enc Tryz.prog W 0 (fun _=>true) true t v dw ps) :
 ∃ (k:Nat) (cs:Array Value) (d:D),v = .agg cs/\Rep Tryz.prog W (fun b=>b<W.heap.size) k t cs.toList d/\Fits Tryz.prog k t d/\bulkD d<=Rows.uptoBulk dw:=by
 obtain ⟨cs,rfl,_⟩:=okWide_struct ht hv
 obtain ⟨k,hk⟩:=hd
 obtain ⟨d,h1,h2,h3⟩:=zCn hk
 exact ⟨k,cs,d,rfl,by simpa [Value.cells] using h1,h2,h3⟩
theorem rep_len {P:Program} {w:World} {I:Nat->Prop} {k:Nat} {t:TypeId} {cs:List Value} {d:D} {fs:Array Field} (ht:P.underlying t=some (.struct fs)) (h:Rep P w I k t cs d):cs.length=P.cellsOf t:=by
 cases k with
 |zero=>exact h.elim
 |succ k=>unfold Rep at h;rw [ht] at h;exact h.1
theorem cells0 {W:World} {k:Nat} {t:TypeId} {cs:Array Value} {d:D} {fs:Array Field} (ht:Tryz.prog.underlying t=some (.struct fs)) (hl:layB Tryz.prog 12 t=true) (hr:Rep Tryz.prog W (fun b=>b<W.heap.size) k t cs.toList d):rel Tryz.prog (sg0 W) W (.agg (cellsV Tryz.prog 12 t d)) (.agg cs):=by
 rw [rel]
 exact ⟨cs,rfl,zD7 (s:=sg0 W) 12 k t cs.toList d (RepF.of_rep hr fun b o _ h=>h) (rep_len ht hr) hl⟩
theorem upto_one {H:Type} {d:DataW H} {gs:List (DataW H)} (h:Rows.uptoSmall H (d::gs)=true):Rows.uptoBulk d<=1048576:=by
 have h1:Rows.uptoBulkAll (d::gs)<=1048576:=of_decide_eq_true h
 rw [Rows.uptoBulkAll] at h1
 omega
def docSet:List TypeId:=[25,23,45,41,50,42,79,43,55,106,111,40,108,51,53,39,9,48,46,3,4]
theorem doc_closed:closedB Tryz.prog docSet=true:=by kernel_rfl
theorem zI4 {H:Type} {enc:TypeId × Value->H} {W:World} {v:Value} {base:Nat} {dw:DataW H} {ps:List MemPlace} (hv:Value.okWide Tryz.prog W .any base 25 v) (hd:DataW.Trod enc Tryz.prog W 0 (fun _=>true) true 25 v dw ps) (hb:Rows.uptoBulk dw<=1048576) (he:Env W) :
 Calls Tryz.prog 8 #[v] W fun e W'=>e = .returned (.bool true)/\Below W.heap.size W W':=by
 obtain ⟨k,cs,d,rfl,hr,hf,hbk⟩:=arg_in Tryz.underlying25 hv hd
 have hw:=zIr doc_closed (by decide) hr hf
 exact zIe (zI5 d hf hw (by omega)) (relL1 (cells0 Tryz.underlying25 (by kernel_rfl) hr)) he
theorem zCU (H:Type) (enc:TypeId × Value->H) (W:World) (base:Nat) (args:Array Value) (ds gs:List (DataW H)) (before:List MemPlace)
 (hval : ∀ (j:Nat) t v,Tryz.f8.params[j]? = some t->args[j]? = some v->Value.okWide Tryz.prog W .any base t v)
 (hW:DataW.Whole enc Tryz.prog Tryz.f8.params.toList Rows.sdlprintReturnsSpec.vars false W args.toList ds gs before) (hL:laidMetH Tryz.prog Rows.sdlprintReturnsUptoRow.laid W)
 (hcond : ∀ k,(Rows.OpenSpec.upto Rows.sdlprintReturnsSpec).cond=some k->k H (ds++gs)=true)
 (hR:(DataW.weightsEach Tryz.prog (Tryz.f8.params.toList++(Rows.OpenSpec.upto Rows.sdlprintReturnsSpec).bare.plain.varTypes Tryz.prog) (ds++gs)).all (· <= reachBytes)=true) :
 Calls Tryz.prog 8 args W fun e W' => ∃ v,e = .returned v/\Rows.sdlprintReturnsSpec.post enc Tryz.prog Tryz.f8 false true false false W args v W':=by
 have hW':=hW
 obtain ⟨p,q,hA0,hV,rfl,hfz,hnd⟩:=hW
 have hA:DataW.TrodAll enc Tryz.prog W 0 (fun _=>true) true Tryz.f8.params.toList args.toList ds p:=hA0
 rw [Tryz.params8] at hA hval hR
 obtain ⟨v0,vs0,d0,ds0,p0,q0,hargs,rfl,rfl,h0,r0⟩:=trodAll_cons hA
 obtain ⟨rfl,rfl,rfl⟩:=trodAll_nil r0
 obtain rfl:args = #[v0]:=by cases args;simp_all
 refine (zI4 (hval 0 25 v0 rfl rfl) h0 (upto_one (hcond _ rfl)) (zJX hL)).mono fun e W' ⟨he,hbel⟩ => ?_
 subst he
 exact ⟨_,rfl,post_true laidOut' (types_ok _ (by kernel_rfl)) Tryz.underlying4 rfl rfl hW' hbel (fun gs h=>by subst h;rfl)⟩
theorem laid_metSdlprintReturns (os:Os):laidMet Tryz.prog Rows.sdlprintReturnsUptoRow.laid ((laidWorld os).forCall (fun _ _=>0) ⟨#[],#[.agg #[.slice none 0 0]],[]⟩).memory:=
 laidMet_of_run' 8 (by kernel_rfl) (by kernel_rfl)
theorem zDI (os:Os) {H:Type} (enc:TypeId × Value->H) : ∃ places,DataW.whole enc Tryz.prog ((laidWorld os).forCall (fun _ _=>0) ⟨#[],#[.agg #[.slice none 0 0]],[]⟩).memory Tryz.f8.params.toList Rows.sdlprintReturnsSpec.vars false (#[.agg #[.slice none 0 0]]:Array Value).toList 8=some ([.agg [.nil]],[],places):=
 ⟨[],by kernel_rfl⟩
theorem zCr (os:Os) (started:os.Started) (H:Type) (enc:TypeId × Value->H) (F:Stop.Interp) :
 ReturnsInHanded {} Tryz.checked os 8 .any ((Rows.OpenSpec.upto Rows.sdlprintReturnsSpec).preRow enc Tryz.prog Tryz.f8 Rows.sdlprintReturnsUptoRow.domain false Rows.sdlprintReturnsUptoRow.laid) (((Rows.OpenSpec.upto Rows.sdlprintReturnsSpec).at F).post enc Tryz.prog Tryz.f8 false true false false):=by
 obtain ⟨places,hx⟩:=zDI os enc
 refine returnsInHanded_of_row (C:=Tryz.checked) (s:=Rows.OpenSpec.upto Rows.sdlprintReturnsSpec) own started (by kernel_rfl) Tryz.func8
  (witness_row_at (enc:=enc) (C:=Tryz.checked) false (laidWorld os) #[.agg #[.slice none 0 0]] rfl (by kernel_rfl) (by kernel_rfl) (by kernel_rfl)
    (OpenSpec.preRow_of_cond 8 hx (by kernel_rfl) (fun k hk=>by cases hk;kernel_rfl) (by kernel_rfl) (laid_metSdlprintReturns os))) ?_
 intro W base args ds gs before hval hW _ hcond hR hL _ _
 exact zCU H enc W base args ds gs before hval hW hL hcond hR
theorem zDL {a b:Bool} (h1:a=true) (h2:b=true):(a&&b)=true:=by rw [h1,h2];rfl
theorem zCv:joinedFacts Tryz.prog 8 Tryz.f8 (Rows.OpenSpec.upto Rows.sdlprintReturnsSpec).bare Rows.sdlprintReturnsUptoRow=true:=by
 unfold joinedFacts
 repeat' (with_reducible apply zDL)
 all_goals as_aux_lemma=>kernel_rfl
theorem zDV:Rows.SdlprintReturnsUptoSaid:=
 OpenClaim.holds_of_cond 8 Tryz.f8 rfl rfl rfl rfl rfl rfl rfl ⟨rfl,rfl,rfl,rfl,rfl⟩ rfl rfl rfl rfl rfl (by kernel_rfl) Tryz.func8 zCv
  (of_decide_eq_true (by kernel_rfl)) (by unfold Func.isWrapper;first | (rw [if_pos (by decide +kernel)];kernel_rfl) | (rw [if_neg (by decide +kernel)];exact ⟨rfl,rfl⟩))
  (fun os started H enc _ F=>by rw [OpenClaim.pre_eq_preRow];exact zCr os started H enc F)
theorem zDJ (f : FuncId) (fn : Func) (hf : Tryz.pinned.checked.prog.funcNamed "supergraph/supergraphlaw07.SdlprintReturns" = some f) (hfn : Tryz.pinned.checked.prog.funcs[f]? = some fn) :
 true=Tryz.pinned.checked.prog.looks [] /\ ∀ (j:Nat) t,fn.params[j]? = some t->Tryz.pinned.checked.prog.wantsStandIn t=false:=by
 obtain rfl : f = 8 := Option.some.inj ((show Tryz.prog.funcNamed "supergraph/supergraphlaw07.SdlprintReturns" = some 8 by kernel_rfl).symm.trans hf) |>.symm
 obtain rfl:fn=Tryz.f8:=(Option.some.inj (Tryz.func8.symm.trans hfn)).symm
 refine ⟨by kernel_rfl,fun j t ht => ?_⟩
 rw [Tryz.params8] at ht
 have hm:=Array.mem_of_getElem? ht
 simp only [List.mem_toArray,List.mem_cons,List.not_mem_nil,or_false] at hm
 rcases hm with rfl
 . exact (show Tryz.prog.wantsStandIn 25=false by kernel_rfl)
end
end Go.Proofs.YthppafnlnnpciaaGreatDoor
