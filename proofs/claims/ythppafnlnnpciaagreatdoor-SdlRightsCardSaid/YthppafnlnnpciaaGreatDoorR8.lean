import Derived.Test.YthppafnlnnpciaaGreatDoorCards
import Derived.Test.YthppafnlnnpciaaGreatDoorTie
import Derived.ProofKit
import Derived.OpenShut
import Derived.Deep.DeepHandedRow
import Derived.Test.YthppafnlnnpciaaGreatDoorR7
set_option linter.unusedVariables false
set_option linter.unusedSimpArgs false
namespace Go.Proofs.YthppafnlnnpciaaGreatDoor
open Go.ChangeShapes Go.WideShapes Go.ChangeAt Go.RowKit
attribute [local irreducible] wpList Calls Code.wp
theorem zDk:laidOutB Tryz.prog=true:=by kernel_rfl
theorem zIx:(Tryz.prog.globals[2]?).map (·.type)=some 138:=by kernel_rfl
theorem zIw:(Tryz.prog.globals[1]?).map (·.type)=some 138:=by kernel_rfl
theorem zBr {P:Program} {W:World} {g:Nat} {n:String} {t e:TypeId} {m:Nat} {k:IntKind} {zs:List Int} (hg:P.globalNamed n=some g) (hty:(P.globals[g]?).map (·.type)=some t) (ht:P.underlying t=some (.array m e)) (he:P.underlying e=some (.int k)) (hce:P.cellsOf e=1) (hct:P.cellsOf t=m)
 (h : ∃ g t cs fuel p,P.globalNamed n=some g/\(P.globals[g]?).map (·.type)=some t/\W.var? P n=some cs/\DataW.trod (fun _=>()) P W 0 (fun _=>true) false fuel t cs.toList=some (Lib.tabData k zs,p)):Lib.TabIs P W n k zs:=by
 obtain ⟨g',t',cs,fuel,p,hg',ht',hvar,hd⟩:=h
 obtain rfl:=Option.some.inj (hg.symm.trans hg')
 obtain rfl:=Option.some.inj (hty.symm.trans ht')
 unfold Lib.TabIs
 rw [hvar,<- Lib.cells_of_tab ht he hce hct hd]
theorem zAp {P:Program} {W:World} {g:Nat} {n nm:String} {t:TypeId} {ms:Array (String × TypeId)} {d:DataW Unit} (hg:P.globalNamed n=some g) (hty:(P.globals[g]?).map (·.type)=some t) (ht:P.underlying t=some (.interface ms))
 (h : ∃ g t cs fuel p,P.globalNamed n=some g/\(P.globals[g]?).map (·.type)=some t/\W.var? P n=some cs/\DataW.trod (fun _=>()) P W 0 (fun _=>true) false fuel t cs.toList=some (.iface nm d,p)) : ∃ tp p,W.var? P n=some #[.iface tp p]:=by
 obtain ⟨g',t',cs,fuel,p,hg',ht',hvar,hd⟩:=h
 obtain rfl:=Option.some.inj (hg.symm.trans hg')
 obtain rfl:=Option.some.inj (hty.symm.trans ht')
 obtain ⟨_,u,v,hc,_⟩:=iface_of_trod ht hd
 refine ⟨u,v,?_⟩
 rw [hvar]
 cases cs;simp_all
theorem gPowT:(Tryz.prog.globals[3]?).map (·.type)=some 227:=by kernel_rfl
def zIq : List (String × DataW Unit) := [("math/bits.deBruijn32tab", Rows.laid_math_bits_deBruijn32tab), ("math/bits.deBruijn64tab", Rows.laid_math_bits_deBruijn64tab), ("internal/strconv.uint64pow10", Rows.laid_internal_strconv_uint64pow10), ("strconv.ErrRange", Rows.laid_strconv_ErrRange), ("strconv.ErrSyntax", Rows.laid_strconv_ErrSyntax)]
theorem zBX {W:World} (h:laidMetH Tryz.prog zIq W):Env W:=by
 have h':laidMet Tryz.prog zIq W:=h
 obtain ⟨ps,⟨_,_,_,_,_,_,_,_,_,_,⟨_,_,_,_,_,_,_,_,_,_,⟨g3,t3,c3,f3,p3,q3,a3,b3,e3,d3,⟨g4,t4,c4,f4,p4,q4,a4,b4,e4,d4,⟨g5,t5,c5,f5,p5,q5,a5,b5,e5,d5,_⟩,_⟩,_⟩,_⟩,_⟩,_⟩:=h'
 exact ⟨zBr gPow gPowT Tryz.underlying227 Tryz.underlying210 (by kernel_rfl) (by kernel_rfl) ⟨g3,t3,c3,f3,p3,a3,b3,e3,d3⟩,
  zAp gErrR zIx Tryz.underlying138 ⟨g4,t4,c4,f4,p4,a4,b4,e4,d4⟩,
  zAp gErrS zIw Tryz.underlying138 ⟨g5,t5,c5,f5,p5,a5,b5,e5,d5⟩⟩
def tab32:List Int:=[0,1,28,2,29,14,24,3,30,22,20,15,25,17,4,8,31,27,13,23,21,19,16,7,26,12,18,6,11,5,10,9]
def tab64:List Int:=[0,1,56,2,57,49,28,3,61,58,42,50,38,29,17,4,62,47,59,36,45,43,51,22,53,39,33,30,24,18,12,5,63,55,48,27,60,41,37,16,46,35,44,21,52,32,23,11,54,26,40,15,34,20,31,10,25,14,19,9,13,8,7,6]
def zCY (cs:Array Value):Obj->Obj
 |.cells _ t frozen => .cells cs t frozen
 |o=>o
noncomputable def laidWorld (os:Os):World:=
 let w:=World.holding Tryz.prog os ⟨#[],#[],[]⟩
 let n:=w.heap.size
 { w with heap:=((((((w.heap.modify 4 (zCY (tab32.map fun z=>Value.int .u8 z).toArray)).modify 5 (zCY (tab64.map fun z=>Value.int .u8 z).toArray)).modify 3 (zCY (Lib.pow10Tab.map fun z=>Value.int .u64 z).toArray)).modify 2
     (zCY #[.iface 231 (.pointer (some ⟨n,0,none⟩))])).modify 1 (zCY #[.iface 231 (.pointer (some ⟨n+1,0,none⟩))])).push
     (.cells #[.string ⟨#[118,97,108,117,101,32,111,117,116,32,111,102,32,114,97,110,103,101]⟩] 233)).push (.cells #[.string ⟨#[105,110,118,97,108,105,100,32,115,121,110,116,97,120]⟩] 233) }
end Go.Proofs.YthppafnlnnpciaaGreatDoor
