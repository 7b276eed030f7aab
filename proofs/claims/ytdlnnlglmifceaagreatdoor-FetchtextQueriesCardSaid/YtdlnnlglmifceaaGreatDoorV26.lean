import Derived.Test.YtdlnnlglmifceaaGreatDoorCards
import Derived.Test.YtdlnnlglmifceaaGreatDoorTie
import Derived.ProofKit
import Derived.OpenShut
import Derived.Deep.DeepHandedRow
import Derived.Test.YtdlnnlglmifceaaGreatDoorV25
set_option maxHeartbeats 8000000
set_option maxRecDepth 100000
set_option linter.unusedVariables false
set_option linter.unusedSimpArgs false
namespace Go.Proofs.YtdlnnlglmifceaaGreatDoor
open Go.ChangeShapes Go.WideShapes Go.ChangeAt Go.RowKit
attribute [local irreducible] wpList Calls Code.wp
theorem own : ownKnob Tryz.prog.godebug = none:=by kernel_rfl
theorem laidOut' : laidOutB Tryz.prog = true:=by kernel_rfl
theorem gPow : Tryz.prog.globalNamed "internal/strconv.uint64pow10" = some 1 := by kernel_rfl
theorem tab_of_row {P : Program} {W : World} {g : Nat} {n : String} {t e : TypeId} {m : Nat} {k : IntKind} {zs : List Int} (hg : P.globalNamed n = some g) (hty : (P.globals[g]?).map (·.type) = some t) (ht : P.underlying t = some (.array m e)) (he : P.underlying e = some (.int k)) (hce : P.cellsOf e = 1) (hct : P.cellsOf t = m)
 (h : ∃ g t cs fuel p,P.globalNamed n = some g /\ (P.globals[g]?).map (·.type) = some t /\ W.var? P n = some cs /\ DataW.trod (fun _ => ()) P W 0 (fun _ => true) false fuel t cs.toList = some (Lib.tabData k zs,p)) : Lib.TabIs P W n k zs:=by
 obtain ⟨g',t',cs,fuel,p,hg',ht',hvar,hd⟩:=h
 obtain rfl:=Option.some.inj (hg.symm.trans hg')
 obtain rfl:=Option.some.inj (hty.symm.trans ht')
 unfold Lib.TabIs
 rw [hvar,<- Lib.cells_of_tab ht he hce hct hd]
theorem gPowT : (Tryz.prog.globals[1]?).map (·.type) = some 241:=by kernel_rfl
theorem int_arg {H : Type} {enc : TypeId × Value -> H} {P : Program} {W : World} {r : Reach} {b0 base : Nat} {sp : Nat -> Bool} {held : Bool} {t : TypeId} {v : Value} {d : DataW H} {ps : List MemPlace} (ht : P.underlying t = some (.int .i64)) (hval : Value.okWide P W r b0 t v) (hd : DataW.Trod enc P W base sp held t v d ps) :
 ∃ n : Int,v = .int .i64 n /\ -9223372036854775808 <= n /\ n <= 9223372036854775807:=by
 obtain ⟨n,rfl⟩:=okWide_int ht hval
 obtain ⟨fuel,hf⟩:=hd
 obtain ⟨z,hc,_,hw⟩:=DataW.trod_int ht hf
 simp [Value.cells] at hc
 subst hc
 simp only [Lit.wf,Bool.and_eq_true,decide_eq_true_eq] at hw
 exact ⟨n,rfl,hw.1,Int.le_of_lt_add_one (Int.lt_of_le_of_lt hw.2 (by decide))⟩
theorem types_ok (ts : List TypeId) (h : (ts.all fun t => Tryz.prog.readableRec t && decide (t < Tryz.prog.types.size)) = true) : ∀ t ∈ ts,Tryz.prog.readableRec t = true /\ t < Tryz.prog.types.size:=by
 intro t ht
 have:=List.all_eq_true.1 h t ht
 simpa using this
def tab32 : List Int:=[0,1,28,2,29,14,24,3,30,22,20,15,25,17,4,8,31,27,13,23,21,19,16,7,26,12,18,6,11,5,10,9]
def tab64 : List Int:=[0,1,56,2,57,49,28,3,61,58,42,50,38,29,17,4,62,47,59,36,45,43,51,22,53,39,33,30,24,18,12,5,63,55,48,27,60,41,37,16,46,35,44,21,52,32,23,11,54,26,40,15,34,20,31,10,25,14,19,9,13,8,7,6]
def relay (cs : Array Value) : Obj -> Obj
 | .cells _ t frozen => .cells cs t frozen
 | o => o
noncomputable def laidWorld (os : Os) : World:=
 let w:=World.holding Tryz.prog os ⟨#[],#[],[]⟩
 let n:=w.heap.size
 { w with heap:=((((((w.heap.modify 4 (relay (tab32.map fun z => Value.int .u8 z).toArray)).modify 5 (relay (tab64.map fun z => Value.int .u8 z).toArray)).modify 1 (relay (Lib.pow10Tab.map fun z => Value.int .u64 z).toArray)).modify 3
     (relay #[.iface 257 (.pointer (some ⟨n,0,none⟩))])).modify 2 (relay #[.iface 257 (.pointer (some ⟨n + 1,0,none⟩))])).push
     (.cells #[.string ⟨#[118,97,108,117,101,32,111,117,116,32,111,102,32,114,97,110,103,101]⟩] 259)).push (.cells #[.string ⟨#[105,110,118,97,108,105,100,32,115,121,110,116,97,120]⟩] 259) }
end Go.Proofs.YtdlnnlglmifceaaGreatDoor
namespace Go.Proofs.YtdlnnlglmifceaaGreatDoor
open Go.RowKit
attribute [local irreducible] wpList Calls Code.wp
structure Rn (l : List UInt8) (d : ByteArray) (ng : Bool) : Prop where
 empty : d.size = 0 -> numU l = Lib.NumEnd.syntax
 zero : 0 < d.size -> bV d 0 = 48 -> (1 < d.size \/ ng = true) -> numU l = Lib.NumEnd.syntax
 bad : ∀ x,x < d.size -> digB (bV d x) = false -> numU l = Lib.NumEnd.syntax
 good : 0 < d.size -> ¬ (bV d 0 = 48 /\ (1 < d.size \/ ng = true)) -> (∀ k,k < d.size -> digB (bV d k) = true) ->
  numU l = if ng = true then (if decV 0 (tk d d.size) <= 9223372036854775808 then .ok (-(decV 0 (tk d d.size) : Int)) else .range) else if decV 0 (tk d d.size) < 9223372036854775808 then .ok (decV 0 (tk d d.size)) else .range
 mono : ∀ m,decV 0 (tk d m) <= decV 0 (tk d d.size)
theorem str_arg {P : Program} {s : Sg} {w : World} {x : ByteArray} {us : Array Value} (h : relL P s w [.c (.string x)] us.toList) : us = #[.string x] /\ x.size <= maxLen:=by
 obtain ⟨u,rfl,h1⟩:=zD2 h
 rw [rel] at h1
 exact ⟨by rw [h1.1],h1.2⟩
end Go.Proofs.YtdlnnlglmifceaaGreatDoor
namespace Go.Proofs.YtdlnnlglmifceaaGreatDoor
open Go.RowKit
attribute [local irreducible] wpList Calls Code.wp AW AWo OpOk seqK zAi zAp loopK endK AC zAC Yld Sub
attribute [local irreducible] ACB ACX absLexG YldG
section
variable {X : Cx} {nn : Nat} {st : Vst nn} {K : Exit -> Vst nn -> Prop}
theorem zT {c : Operand} {x y : Code} {b : Bool} (hc : ev st c = .c (.bool b)) (hb : b = true) (ht : AW X x st K) : AW X (.cond c x y) st K:=zW hc (fun _ => ht) (fun e => by rw [hb] at e; cases e)
theorem zQ {c : Operand} {x y : Code} {b : Bool} (hc : ev st c = .c (.bool b)) (hb : b = false) (ht : AW X y st K) : AW X (.cond c x y) st K:=zW hc (fun e => by rw [hb] at e; cases e) (fun _ => ht)
end
end Go.Proofs.YtdlnnlglmifceaaGreatDoor
