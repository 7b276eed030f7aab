import Derived.Test.YthppafnlnnpciaaGreatDoorCards
import Derived.Test.YthppafnlnnpciaaGreatDoorTie
import Derived.ProofKit
import Derived.OpenShut
import Derived.Deep.DeepHandedRow
import Derived.Test.YthppafnlnnpciaaGreatDoorR3
set_option maxHeartbeats 20000000
set_option maxRecDepth 100000
set_option linter.unusedVariables false
set_option linter.unusedSimpArgs false
namespace Go.Proofs.YthppafnlnnpciaaGreatDoor
open Go.ChangeShapes Go.WideShapes Go.ChangeAt Go.RowKit
attribute [local irreducible] wpList Calls Code.wp
theorem zDk:laidOutB Tryz.prog=true:=by kernel_rfl
theorem zIx:(Tryz.prog.globals[2]?).map (·.type)=some 138:=by kernel_rfl
theorem zIw:(Tryz.prog.globals[1]?).map (·.type)=some 138:=by kernel_rfl
theorem zBr {P:Program} {W:World} {g:Nat} {n:String} {t e:TypeId} {m:Nat} {k:IntKind} {zs:List Int} (hg:P.globalNamed n=some g) (hty:(P.globals[g]?).map (·.type)=some t) (ht:P.underlying t=some (.array m e)) (he:P.underlying e=some (.int k)) (hce:P.cellsOf e=1) (hct:P.cellsOf t=m)
 (h : ∃ g t cs fuel p,P.globalNamed n=some g/\(P.globals[g]?).map (·.type)=some t/\W.var? P n=some cs/\DataW.trod (fun _=>()) P W 0 (fun _=>true) false fuel t cs.toList=some (Lib.tabData k zs,p)):Lib.TabIs P W n k zs:=by
 obtain ⟨g',t',cs,fuel,p,hg',ht',hvar,hd⟩:=h
 obtain rfl:=Option.some.inj (hg.symm.trans hg')
 obtain rfl:=Option.some.inj (hty.symm.trans ht')
 unfold Lib.TabIs
 rw [hvar,<- Lib.cells_of_tab ht he hce hct hd]
theorem zAp {P:Program} {W:World} {g:Nat} {n nm:String} {t:TypeId} {ms:Array (String × TypeId)} {d:DataW Unit} (hg:P.globalNamed n=some g) (hty:(P.globals[g]?).map (·.type)=some t) (ht:P.underlying t=some (.interface ms))
 (h : ∃ g t cs fuel p,P.globalNamed n=some g/\(P.globals[g]?).map (·.type)=some t/\W.var? P n=some cs/\DataW.trod (fun _=>()) P W 0 (fun _=>true) false fuel t cs.toList=some (.iface nm d,p)) : ∃ tp p,W.var? P n=some #[.iface tp p]:=by
 obtain ⟨g',t',cs,fuel,p,hg',ht',hvar,hd⟩:=h
 obtain rfl:=Option.some.inj (hg.symm.trans hg')
 obtain rfl:=Option.some.inj (hty.symm.trans ht')
 obtain ⟨_,u,v,hc,_⟩:=iface_of_trod ht hd
 refine ⟨u,v,?_⟩
 rw [hvar]
 cases cs;simp_all
theorem gPowT:(Tryz.prog.globals[3]?).map (·.type)=some 227:=by kernel_rfl
theorem zB0 {H:Type} {P:Program} {t:TypeId} {ts:List TypeId} {ds:List (DataW H)} {l:List UInt8}:l.length∈DataW.weightsEach P (t::ts) (.lit (.string l)::ds):=by
 simp [DataW.weightsEach,DataW.weights]
theorem zCs {H:Type} {P:Program} {ts:List TypeId} {ds:List (DataW H)} {s:ByteArray} (h:(DataW.weightsEach P ts ds).all (· <= reachBytes)=true) (hm:s.data.toList.length∈DataW.weightsEach P ts ds):s.size<=140737488351232:=by
 have h1:s.data.toList.length<=reachBytes:=of_decide_eq_true (List.all_eq_true.1 h _ hm)
 have h2:s.data.toList.length=s.size:=by simp
 unfold reachBytes at h1
 omega
def zIq : List (String × DataW Unit) := [("math/bits.deBruijn32tab", Rows.laid_math_bits_deBruijn32tab), ("math/bits.deBruijn64tab", Rows.laid_math_bits_deBruijn64tab), ("internal/strconv.uint64pow10", Rows.laid_internal_strconv_uint64pow10), ("strconv.ErrRange", Rows.laid_strconv_ErrRange), ("strconv.ErrSyntax", Rows.laid_strconv_ErrSyntax)]
theorem zBX {W:World} (h:laidMetH Tryz.prog zIq W):Env W:=by
 have h':laidMet Tryz.prog zIq W:=h
 obtain ⟨ps,⟨_,_,_,_,_,_,_,_,_,_,⟨_,_,_,_,_,_,_,_,_,_,⟨g3,t3,c3,f3,p3,q3,a3,b3,e3,d3,⟨g4,t4,c4,f4,p4,q4,a4,b4,e4,d4,⟨g5,t5,c5,f5,p5,q5,a5,b5,e5,d5,_⟩,_⟩,_⟩,_⟩,_⟩,_⟩:=h'
 exact ⟨zBr gPow gPowT Tryz.underlying227 Tryz.underlying210 (by kernel_rfl) (by kernel_rfl) ⟨g3,t3,c3,f3,p3,a3,b3,e3,d3⟩,
  zAp gErrR zIx Tryz.underlying138 ⟨g4,t4,c4,f4,p4,a4,b4,e4,d4⟩,
  zAp gErrS zIw Tryz.underlying138 ⟨g5,t5,c5,f5,p5,a5,b5,e5,d5⟩⟩
def tab32:List Int:=[0,1,28,2,29,14,24,3,30,22,20,15,25,17,4,8,31,27,13,23,21,19,16,7,26,12,18,6,11,5,10,9]
def tab64:List Int:=[0,1,56,2,57,49,28,3,61,58,42,50,38,29,17,4,62,47,59,36,45,43,51,22,53,39,33,30,24,18,12,5,63,55,48,27,60,41,37,16,46,35,44,21,52,32,23,11,54,26,40,15,34,20,31,10,25,14,19,9,13,8,7,6]
def zCY (cs:Array Value):Obj->Obj
 |.cells _ t frozen => .cells cs t frozen
 |o=>o
noncomputable def laidWorld (os:Os):World:=
 let w:=World.holding Tryz.prog os ⟨#[],#[],[]⟩
 let n:=w.heap.size
 { w with heap:=((((((w.heap.modify 4 (zCY (tab32.map fun z=>Value.int .u8 z).toArray)).modify 5 (zCY (tab64.map fun z=>Value.int .u8 z).toArray)).modify 3 (zCY (Lib.pow10Tab.map fun z=>Value.int .u64 z).toArray)).modify 2
     (zCY #[.iface 231 (.pointer (some ⟨n,0,none⟩))])).modify 1 (zCY #[.iface 231 (.pointer (some ⟨n+1,0,none⟩))])).push
     (.cells #[.string ⟨#[118,97,108,117,101,32,111,117,116,32,111,102,32,114,97,110,103,101]⟩] 233)).push (.cells #[.string ⟨#[105,110,118,97,108,105,100,32,115,121,110,116,97,120]⟩] 233) }
theorem zD9 (H:Type) (enc:TypeId × Value->H) (W:World) (base:Nat) (args:Array Value) (ds gs:List (DataW H)) (before:List MemPlace)
 (hval : ∀ (j:Nat) t v,Tryz.f5.params[j]? = some t->args[j]? = some v->Value.okWide Tryz.prog W .any base t v)
 (hW:DataW.Whole enc Tryz.prog Tryz.f5.params.toList Rows.sdlSpacesSpec.vars false W args.toList ds gs before) (hL:laidMetH Tryz.prog Rows.sdlSpacesRow.laid W)
 (hR:(DataW.weightsEach Tryz.prog (Tryz.f5.params.toList++(OpenSpec.ofChange Rows.sdlSpacesSpec).bare.plain.varTypes Tryz.prog) (ds++gs)).all (· <= reachBytes)=true) :
 Calls Tryz.prog 5 args W fun e W' => ∃ v,e = .returned v/\Rows.sdlSpacesSpec.post enc Tryz.prog Tryz.f5 false true false false W args v W':=by
 have hW':=hW
 obtain ⟨p,q,hA0,hV,rfl,hfz,hnd⟩:=hW
 have hA:DataW.TrodAll enc Tryz.prog W 0 (fun _=>true) true Tryz.f5.params.toList args.toList ds p:=hA0
 rw [Tryz.params5] at hA hval hR
 obtain ⟨v0,vs0,d0,ds0,p0,q0,hargs,rfl,rfl,h0,r0⟩:=trodAll_cons hA
 obtain ⟨rfl,rfl,rfl⟩:=trodAll_nil r0
 obtain rfl:args = #[v0]:=by cases args;simp_all
 have hv0:=hval 0 9 v0 rfl rfl
 obtain ⟨s0,rfl,rfl,_,hm0⟩:=Go.ChangeMaps.open_string (r:=.any) (b0:=base) (t:=9) (w:=W) Tryz.underlying9 hv0 h0
 have hs0:s0.size<=140737488351232:=zCs hR (zB0)
 refine (rowSpaces6 s0 hs0 (zBX hL)).mono fun e W' ⟨he,hbel⟩ => ?_
 subst he
 exact ⟨_,rfl,zCZ zDk (zGo _ (by kernel_rfl)) Tryz.underlying4 rfl rfl hW' hbel (fun gs h=>by subst h;rfl)⟩
theorem laid_metSdlSpaces (os:Os):laidMet Tryz.prog Rows.sdlSpacesRow.laid ((laidWorld os).forCall (fun _ _=>0) ⟨#[],#[.string ⟨#[]⟩],[]⟩).memory:=
 laidMet_of_run' 8 (by kernel_rfl) (by kernel_rfl)
theorem zFn (os:Os) {H:Type} (enc:TypeId × Value->H) : ∃ places,DataW.whole enc Tryz.prog ((laidWorld os).forCall (fun _ _=>0) ⟨#[],#[.string ⟨#[]⟩],[]⟩).memory Tryz.f5.params.toList Rows.sdlSpacesSpec.vars false (#[.string ⟨#[]⟩]:Array Value).toList 8=some ([.lit (.string [])],[],places):=
 ⟨[],by kernel_rfl⟩
theorem zFH (os:Os) (started:os.Started) (H:Type) (enc:TypeId × Value->H) (F:Stop.Interp) :
 ReturnsInHanded {} Tryz.checked os 5 .any ((OpenSpec.ofChange Rows.sdlSpacesSpec).preRow enc Tryz.prog Tryz.f5 Rows.sdlSpacesRow.domain false Rows.sdlSpacesRow.laid) (((OpenSpec.ofChange Rows.sdlSpacesSpec).at F).post enc Tryz.prog Tryz.f5 false true false false):=by
 obtain ⟨places,hx⟩:=zFn os enc
 refine returnsInHanded_of_row (C:=Tryz.checked) (s:=OpenSpec.ofChange Rows.sdlSpacesSpec) own started (by kernel_rfl) Tryz.func5
  (witness_row_at (enc:=enc) (C:=Tryz.checked) false (laidWorld os) #[.string ⟨#[]⟩] rfl (by kernel_rfl) (by kernel_rfl) (by kernel_rfl)
    (OpenSpec.preRow_of_cond 8 hx (by kernel_rfl) (fun k hk=>by cases hk) (by kernel_rfl) (laid_metSdlSpaces os))) ?_
 intro W base args ds gs before hval hW _ _ hR hL _ _
 exact zD9 H enc W base args ds gs before hval hW hL hR
theorem zFz {a b:Bool} (h1:a=true) (h2:b=true):(a&&b)=true:=by rw [h1,h2];rfl
theorem zFJ:joinedFacts Tryz.prog 5 Tryz.f5 (OpenSpec.ofChange Rows.sdlSpacesSpec).bare Rows.sdlSpacesRow=true:=by
 unfold joinedFacts
 repeat' (with_reducible apply zFz)
 all_goals as_aux_lemma=>kernel_rfl
theorem zG1:Rows.SdlSpacesSaid:=
 OpenClaim.holds_of_cond 5 Tryz.f5 rfl rfl rfl rfl rfl rfl rfl ⟨rfl,rfl,rfl,rfl,rfl⟩ rfl rfl rfl rfl rfl (by kernel_rfl) Tryz.func5 zFJ
  (of_decide_eq_true (by kernel_rfl)) (by unfold Func.isWrapper;first | (rw [if_pos (by decide +kernel)];kernel_rfl) | (rw [if_neg (by decide +kernel)];exact ⟨rfl,rfl⟩))
  (fun os started H enc _ F=>by rw [OpenClaim.pre_eq_preRow];exact zFH os started H enc F)
theorem zFp (f : FuncId) (fn : Func) (hf : Tryz.pinned.checked.prog.funcNamed "supergraph/supergraphlaw06.SdlSpaces" = some f) (hfn : Tryz.pinned.checked.prog.funcs[f]? = some fn) :
 true=Tryz.pinned.checked.prog.looks [] /\ ∀ (j:Nat) t,fn.params[j]? = some t->Tryz.pinned.checked.prog.wantsStandIn t=false:=by
 obtain rfl : f = 5 := Option.some.inj ((show Tryz.prog.funcNamed "supergraph/supergraphlaw06.SdlSpaces" = some 5 by kernel_rfl).symm.trans hf) |>.symm
 obtain rfl:fn=Tryz.f5:=(Option.some.inj (Tryz.func5.symm.trans hfn)).symm
 refine ⟨by kernel_rfl,fun j t ht => ?_⟩
 rw [Tryz.params5] at ht
 have hm:=Array.mem_of_getElem? ht
 simp only [List.mem_toArray,List.mem_cons,List.not_mem_nil,or_false] at hm
 rcases hm with rfl
 . exact (show Tryz.prog.wantsStandIn 9=false by kernel_rfl)
end Go.Proofs.YthppafnlnnpciaaGreatDoor
