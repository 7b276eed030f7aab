import Derived.Test.YthppafnlnnpciaaGreatDoorRows
import Derived.Test.YthppafnlnnpciaaGreatDoorR8
set_option maxHeartbeats 20000000
set_option maxRecDepth 100000
set_option linter.unusedVariables false
set_option linter.unusedSimpArgs false
namespace Go.Proofs.YthppafnlnnpciaaGreatDoor
section
open Go.RowKit
attribute [local irreducible] wpList Calls Code.wp
theorem Fits.up {P:Program} : ∀ {k:Nat} {t:TypeId} {d:D},Fits P k t d->Fits P (k+1) t d
 |0,_,_,h=>h.elim
 |k+1,t,d,h=>by
  unfold Fits at h |-
  split at h
  . exact h
  . exact h
  . exact h
  . obtain ⟨l,h1,h2⟩:=h
    exact ⟨l,h1,fun i hi=>Fits.up (h2 i hi)⟩
  . obtain ⟨l,h1,h2,h3⟩:=h
    exact ⟨l,h1,h2,fun j f hf=>Fits.up (h3 j f hf)⟩
  . trivial
end
section
def commaT:List UInt8:=[44,32]
theorem zEa (c:Nat) (f:Nat->Nat) : ∀ n,sumN (fun i=>c*f i) n=c*sumN f n
 |0=>by simp [sumN]
 |n+1=>by simp only [sumN,zEa c f n,Nat.mul_add]
theorem zKJ (f g:Nat->Nat) : ∀ n,sumN (fun i=>f i+g i) n=sumN f n+sumN g n
 |0=>rfl
 |n+1=>by simp only [sumN,zKJ f g n];omega
def valT:Nat->D->List UInt8
 |0,_=>[]
 |k+1,d =>
  if (d.f 0).n=1 then (if (d.f 1).n=1 then [116,114,117,101] else [102,97,108,115,101])
  else if (d.f 0).n=2 then Lib.itoa (d.f 1).n
  else if (d.f 0).n=3 then zAX (tx (d.f 2).s)
  else if (d.f 0).n=4 then tx (d.f 2).s
  else if (d.f 0).n=7 then [36]++tx (d.f 2).s
  else if (d.f 0).n=5 then [91]++Lib.join ((List.range (d.f 3).l.length).map fun i=>valT k (gD (d.f 3).l i)) commaT++[93]
  else if (d.f 0).n=6 then [123]++Lib.join ((List.range (min (d.f 4).l.length (d.f 3).l.length)).map fun i=>tx (gD (d.f 4).l i).s++[58,32]++valT k (gD (d.f 3).l i)) commaT++[125]
  else [110,117,108,108]
theorem join_le (sep:List UInt8) : ∀ (ls:List (List UInt8)),(Lib.join ls sep).length<=(ls.map fun l=>l.length+sep.length).sum:=by
 have tail : ∀ (ls:List (List UInt8)),(Lib.joinTail sep ls).length=(ls.map fun l=>l.length+sep.length).sum:=fun ls=>by
  induction ls with
  |nil=>rfl
  |cons l r ih =>
   unfold Lib.joinTail at ih |-
   simp only [List.map_cons,List.flatten_cons,List.length_append,List.sum_cons,ih]
   omega
 intro ls
 cases ls with
 |nil=>simp [Lib.join_nil]
 |cons x r =>
  rw [Lib.join_cons,List.length_append,tail]
  simp only [List.map_cons,List.sum_cons]
  omega
theorem zIP (f:Nat->Nat) : ∀ n,((List.range n).map f).sum=sumN f n
 |0=>rfl
 |n+1=>by simp [List.range_succ,zIP f n,sumN]
theorem zDl (n:Nat) (f:Nat->List UInt8) (sep:List UInt8) (b:Nat->Nat) (h : ∀ i,i<n->(f i).length+sep.length<=b i):(Lib.join ((List.range n).map f) sep).length<=sumN b n:=by
 refine Nat.le_trans (join_le _ _) ?_
 rw [List.map_map,zIP]
 exact zGp h
theorem quote_len (l:List UInt8):(zAX l).length<=6*l.length+2:=by
 have:=zCF l
 simp only [zAX,List.length_append,List.length_cons,List.length_nil];omega
theorem zGl : ∀ (k:Nat) (d:D),wideD d->(valT k d).length+2<=24*bulkD d
 |0,d,_=>by have:=zCn d;simp [valT];omega
 |k+1,d,hw=>by
  have h1:=(hw.f 1).n
  have hd:=zBj d
  have hf:=zH1 d 5
  simp only [sumN] at hf
  have h2:=zKD (d.f 2)
  have h3:=zJQ (d.f 3)
  have h4:=zJQ (d.f 4)
  have t2:=zH6 (d.f 2).s
  unfold valT
  split
  . split<;>simp<;>omega
  split
  . have:=itoa_size _ h1.1 h1.2;omega
  split
  . have:=quote_len (tx (d.f 2).s);omega
  split
  . omega
  split
  . simp only [List.length_append,List.length_cons,List.length_nil];omega
  split
  . have:=zDl (d.f 3).l.length (fun i=>valT k (gD (d.f 3).l i)) commaT (fun i=>24*bulkD (gD (d.f 3).l i)) fun i hi=>zGl k _ ((hw.f 3).l i)
    rw [zEa,<- zCm] at this
    simp only [List.length_append,List.length_cons,List.length_nil];omega
  split
  . have:=zDl (min (d.f 4).l.length (d.f 3).l.length) (fun i=>tx (gD (d.f 4).l i).s++[58,32]++valT k (gD (d.f 3).l i)) commaT (fun i=>24*bulkD (gD (d.f 4).l i)+24*bulkD (gD (d.f 3).l i)) fun i hi=>by
     have a:=zGl k (gD (d.f 3).l i) ((hw.f 3).l i)
     have b:=zKD (gD (d.f 4).l i)
     have c:=zBj (gD (d.f 4).l i)
     have e:=zH6 (gD (d.f 4).l i).s
     have e':commaT.length=2:=rfl
     simp only [List.length_append,List.length_cons,List.length_nil]
     omega
    rw [zKJ,zEa,zEa] at this
    have a1:=zDX (fun i=>bulkD (gD (d.f 4).l i)) (show min (d.f 4).l.length (d.f 3).l.length<=(d.f 4).l.length by omega)
    have a2:=zDX (fun i=>bulkD (gD (d.f 3).l i)) (show min (d.f 4).l.length (d.f 3).l.length<=(d.f 3).l.length by omega)
    rw [<- zCm] at a1 a2
    simp only [List.length_append,List.length_cons,List.length_nil];omega
  . simp;omega
def titleR (s:ByteArray):Bool:=nameB s && !(s.data.toList==[111,110])
def zJl (s:ByteArray):Bool:=s.data.toList==[]
def selsR (sel:D->Bool) (l:List D) (least lv:Nat):Bool:=decide (least<=l.length)&&decide (l.length<=64)&&(decide (l.length=0)||decide (lv<=24)) && !(l.any fun x => !sel x)
def selR:Nat->Nat->D->Bool
 |0,_,_=>false
 |k+1,lv,d=>argsR (d.f 4).l&&dirsR (d.f 5).l &&
  (if (d.f 0).n=1 then zJl (d.f 3).s&&nameB (d.f 2).s&&(zJl (d.f 1).s||nameB (d.f 1).s)&&selsR (selR k (lv+1)) (d.f 6).l 0 (lv+1)
  else if (d.f 0).n=2 then zJl (d.f 3).s&&zJl (d.f 1).s&&decide ((d.f 4).l.length=0)&&decide ((d.f 6).l.length=0)&&titleR (d.f 2).s
  else if (d.f 0).n=3 then zJl (d.f 1).s&&zJl (d.f 2).s&&decide ((d.f 4).l.length=0)&&(zJl (d.f 3).s||nameB (d.f 3).s)&&selsR (selR k (lv+1)) (d.f 6).l 1 (lv+1)
  else false)
end
section
open Go.RowKit
attribute [local irreducible] wpList Calls Code.wp AW AWo OpOk seqK zm zo loopK endK AC zh Yld Sub
theorem zKo (l:List D):l.length<=bulkL l:=by
 induction l with
 |nil=>exact Nat.zero_le _
 |cons x r ih=>have:=zCn x;simp only [List.length_cons,bulkL];omega
theorem ArgsOk.val {k:Nat} {l:List D} (h:ArgsOk k l) {i:Nat} (hi:i<l.length):bulkD ((gD l i).f 1)<=1048576:=by
 have:=zDs hi
 have:=wD_f (gD l i) 1
 have:=zBj ((gD l i).f 1)
 have:=zBj (gD l i)
 have:=h.bulk
 omega
theorem ArgsOk.text {k:Nat} {l:List D} (h:ArgsOk k l) {i:Nat} (hi:i<l.length):(valT k ((gD l i).f 1)).length<=26000000:=by
 have:=h.val hi
 have:=zGl k ((gD l i).f 1) ((h.wide i).f 1)
 omega
theorem ArgsOk.len {k:Nat} {l:List D} (h:ArgsOk k l):l.length<=1048576:=Nat.le_trans (zKo l) h.bulk
theorem DirsOk.len {k:Nat} {l:List D} (h:DirsOk k l):l.length<=1048576:=Nat.le_trans (zKo l) h.bulk
def refB (n:List UInt8):List D->List UInt8
 |[]=>n
 |d::ds=>if d.n==1 then refB n ds++[33] else [91]++refB n ds++[93]
end
section
def SelsOk (K:Nat):Nat->List D->Prop
 |0,l=>l=[]
 |f+1,l => ∀ i,i<l.length->SelOk K (SelsOk K f) (gD l i)
section
variable {e:Tok} {r:List Tok} {α β:Type}
variable (hE:Ends e r)
include hE
theorem frag_ls {a:List Tok} {x x':PS} (h:J e r a x x'):LS e r a (fragQ x) (fragQ x'):=by
 unfold fragQ
 refine .ite (fun ha=>by rw [h.hd ha]) (fun _ => .err) fun _ => .then (zAL hE h).lo fun _ _ y y' hy => .ite (fun ha=>by rw [hy.hd ha]) (fun hk => ?_) fun _ => .err
 obtain ⟨t,a',rfl,h'⟩:=hy.ne_of_k hE (by rw [hk.1];decide)
 refine LS.mono (b:=a') ?_ ⟨[t],rfl⟩
 exact .then (zAL hE h').lo fun _ _ _ _ hz => .pure (set_ls hE hz) fun _ _ u u' hu=>⟨_,u,u',rfl,rfl,hu⟩
end
end
section
theorem En.sel {f lv:Nat} {x y:PS} {v:D} (h:En x) (hq:selQ (zGx f lv) x = .ok (v,y)):En y/\y.ts.length<=x.ts.length:=h.lo (p:=selQ (zGx f lv)) (fun hE h=>sel_lo hE (fun h=>(zGw hE f lv h).lo) h) hq
theorem En.sels {f lv:Nat} {x y:PS} {v:List D} (h:En x) (hq:zGx f lv x = .ok (v,y)):En y/\y.ts.length<x.ts.length:=h.ls (p:=zGx f lv) (fun hE h=>zGw hE f lv h) hq
theorem En.frag {x y:PS} {v:D} (h:En x) (hq:fragQ x = .ok (v,y)):En y/\y.ts.length<x.ts.length:=h.ls (p:=fragQ) (fun hE h=>frag_ls hE h) hq
def SetF (sel:D->Prop) (lv:Nat) (l:List D) (least:Nat):Prop:=least<=l.length/\l.length<=64/\(l.length=0\/lv<=24) /\ ∀ i,i<l.length->sel (gD l i)
end
section
open Go.RowKit
attribute [local irreducible] wpList Calls Code.wp AW AWo OpOk seqK zm zo loopK endK AC zh Yld Sub
structure VarsOk (K:Nat) (l:List D):Prop where
 wide : ∀ i,wideD (gD l i)
 bulk:bulkL l<=1048576
 dp : ∀ i,i<l.length->Dp K ((gD l i).f 3)
 good : ∀ i,i<l.length->goodV K ((gD l i).f 3)
structure VarSz (K:Nat) (v:D):Prop where
 name:(v.f 0).s.size<=1048576
 rname:((v.f 1).f 0).s.size<=1048576
 wraps:((v.f 1).f 1).l.length<=1048576
 rtext:(refB (tx ((v.f 1).f 0).s) ((v.f 1).f 1).l).length<=4000000
 dflt:bulkD (v.f 3)<=1048576
 dtext:(valT K (v.f 3)).length<=26000000
end
section
open Go.RowKit
attribute [local irreducible] wpList Calls Code.wp AW AWo OpOk seqK zm zo loopK endK AC zh Yld Sub
attribute [local irreducible] ACB absLexG YldG
structure DocOk (K f:Nat) (q:D):Prop where
 wide:wideD q
 bulk:bulkD q<=1048576
 deep:f<=299
 vars : ∀ i,i<(q.f 0).l.length->VarsOk K ((gD (q.f 0).l i).f 2).l
 sels : ∀ i,i<(q.f 0).l.length->SelsOk K (f+1) ((gD (q.f 0).l i).f 3).l
 frag : ∀ i,i<(q.f 1).l.length->SelsOk K (f+1) ((gD (q.f 1).l i).f 2).l
end
section
structure VarF (v:D):Prop where
 name:nameB (v.f 0).s=true
 rname:nameB ((v.f 1).f 0).s=true
 rlen:((v.f 1).f 1).l.length<=24
 wraps:zAx (((v.f 1).f 1).l.map D.n)=true
 has:(v.f 2).b=true->litR (v.f 3)=true/\bareR (bulkD (v.f 3)) (v.f 3)=true
 hasnt:(v.f 2).b=false->((v.f 3).f 0).n=0/\((v.f 3).f 1).n=0/\tx ((v.f 3).f 2).s=[]/\((v.f 3).f 3).l.length=0/\((v.f 3).f 4).l.length=0
structure OpF (o:D):Prop where
 kind:1<=(o.f 0).n/\(o.f 0).n<=3
 name:tx (o.f 1).s=[]\/nameB (o.f 1).s=true
 vlen:(o.f 2).l.length<=16
 vars : ∀ i,i<(o.f 2).l.length->VarF (gD (o.f 2).l i)
 sels:SetF (fun d=>selR (bulkL (o.f 3).l) 1 d=true) 1 (o.f 3).l 1
end
section
open Go.ChangeShapes Go.WideShapes Go.ChangeAt Go.RowKit
attribute [local irreducible] wpList Calls Code.wp
theorem zEA (H:Type) (enc:TypeId × Value->H) (W:World) (base:Nat) (args:Array Value) (ds gs:List (DataW H)) (before:List MemPlace)
 (hval : ∀ (j:Nat) t v,Tryz.f4.params[j]? = some t->args[j]? = some v->Value.okWide Tryz.prog W .any base t v)
 (hW:DataW.Whole enc Tryz.prog Tryz.f4.params.toList Rows.sdlRightsSpec.vars false W args.toList ds gs before) (hL:laidMetH Tryz.prog Rows.sdlRightsRow.laid W)
 (hR:(DataW.weightsEach Tryz.prog (Tryz.f4.params.toList++(OpenSpec.ofChange Rows.sdlRightsSpec).bare.plain.varTypes Tryz.prog) (ds++gs)).all (· <= reachBytes)=true) :
 Calls Tryz.prog 4 args W fun e W' => ∃ v,e = .returned v/\Rows.sdlRightsSpec.post enc Tryz.prog Tryz.f4 false true false false W args v W':=by
 have hW':=hW
 obtain ⟨p,q,hA0,hV,rfl,hfz,hnd⟩:=hW
 have hA:DataW.TrodAll enc Tryz.prog W 0 (fun _=>true) true Tryz.f4.params.toList args.toList ds p:=hA0
 rw [Tryz.params4] at hA hval hR
 obtain ⟨v0,vs0,d0,ds0,p0,q0,hargs,rfl,rfl,h0,r0⟩:=trodAll_cons hA
 obtain ⟨rfl,rfl,rfl⟩:=trodAll_nil r0
 obtain rfl:args = #[v0]:=by cases args;simp_all
 refine (rowRights6 (hval 0 25 v0 rfl rfl) h0 (zBX hL)).mono fun e W' ⟨he,hbel⟩ => ?_
 subst he
 exact ⟨_,rfl,zCZ zDk (zGo _ (by kernel_rfl)) Tryz.underlying4 rfl rfl hW' hbel (fun gs h=>by subst h;rfl)⟩
theorem laid_metSdlRights (os:Os):laidMet Tryz.prog Rows.sdlRightsRow.laid ((laidWorld os).forCall (fun _ _=>0) ⟨#[],#[.agg #[.slice none 0 0]],[]⟩).memory:=
 laidMet_of_run' 8 (by kernel_rfl) (by kernel_rfl)
theorem zFo (os:Os) {H:Type} (enc:TypeId × Value->H) : ∃ places,DataW.whole enc Tryz.prog ((laidWorld os).forCall (fun _ _=>0) ⟨#[],#[.agg #[.slice none 0 0]],[]⟩).memory Tryz.f4.params.toList Rows.sdlRightsSpec.vars false (#[.agg #[.slice none 0 0]]:Array Value).toList 8=some ([.agg [.nil]],[],places):=
 ⟨[],by kernel_rfl⟩
theorem zFI (os:Os) (started:os.Started) (H:Type) (enc:TypeId × Value->H) (F:Stop.Interp) :
 ReturnsInHanded {} Tryz.checked os 4 .any ((OpenSpec.ofChange Rows.sdlRightsSpec).preRow enc Tryz.prog Tryz.f4 Rows.sdlRightsRow.domain false Rows.sdlRightsRow.laid) (((OpenSpec.ofChange Rows.sdlRightsSpec).at F).post enc Tryz.prog Tryz.f4 false true false false):=by
 obtain ⟨places,hx⟩:=zFo os enc
 refine returnsInHanded_of_row (C:=Tryz.checked) (s:=OpenSpec.ofChange Rows.sdlRightsSpec) own started (by kernel_rfl) Tryz.func4
  (witness_row_at (enc:=enc) (C:=Tryz.checked) false (laidWorld os) #[.agg #[.slice none 0 0]] rfl (by kernel_rfl) (by kernel_rfl) (by kernel_rfl)
    (OpenSpec.preRow_of_cond 8 hx (by kernel_rfl) (fun k hk=>by cases hk) (by kernel_rfl) (laid_metSdlRights os))) ?_
 intro W base args ds gs before hval hW _ _ hR hL _ _
 exact zEA H enc W base args ds gs before hval hW hL hR
theorem zF0 {a b:Bool} (h1:a=true) (h2:b=true):(a&&b)=true:=by rw [h1,h2];rfl
theorem zFK:joinedFacts Tryz.prog 4 Tryz.f4 (OpenSpec.ofChange Rows.sdlRightsSpec).bare Rows.sdlRightsRow=true:=by
 unfold joinedFacts
 repeat' (with_reducible apply zF0)
 all_goals as_aux_lemma=>kernel_rfl
theorem zG2:Rows.SdlRightsSaid:=
 OpenClaim.holds_of_cond 4 Tryz.f4 rfl rfl rfl rfl rfl rfl rfl ⟨rfl,rfl,rfl,rfl,rfl⟩ rfl rfl rfl rfl rfl (by kernel_rfl) Tryz.func4 zFK
  (of_decide_eq_true (by kernel_rfl)) (by unfold Func.isWrapper;first | (rw [if_pos (by decide +kernel)];kernel_rfl) | (rw [if_neg (by decide +kernel)];exact ⟨rfl,rfl⟩))
  (fun os started H enc _ F=>by rw [OpenClaim.pre_eq_preRow];exact zFI os started H enc F)
theorem zFq (f : FuncId) (fn : Func) (hf : Tryz.pinned.checked.prog.funcNamed "supergraph/supergraphlaw06.SdlRights" = some f) (hfn : Tryz.pinned.checked.prog.funcs[f]? = some fn) :
 true=Tryz.pinned.checked.prog.looks [] /\ ∀ (j:Nat) t,fn.params[j]? = some t->Tryz.pinned.checked.prog.wantsStandIn t=false:=by
 obtain rfl : f = 4 := Option.some.inj ((show Tryz.prog.funcNamed "supergraph/supergraphlaw06.SdlRights" = some 4 by kernel_rfl).symm.trans hf) |>.symm
 obtain rfl:fn=Tryz.f4:=(Option.some.inj (Tryz.func4.symm.trans hfn)).symm
 refine ⟨by kernel_rfl,fun j t ht => ?_⟩
 rw [Tryz.params4] at ht
 have hm:=Array.mem_of_getElem? ht
 simp only [List.mem_toArray,List.mem_cons,List.not_mem_nil,or_false] at hm
 rcases hm with rfl
 . exact (show Tryz.prog.wantsStandIn 25=false by kernel_rfl)
end
end Go.Proofs.YthppafnlnnpciaaGreatDoor
