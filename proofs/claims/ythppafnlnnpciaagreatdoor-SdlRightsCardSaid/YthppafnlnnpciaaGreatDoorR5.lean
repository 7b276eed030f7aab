import Derived.Scope
import Derived.Test.YthppafnlnnpciaaGreatDoorQ34
set_option linter.unusedVariables false
set_option linter.unusedSimpArgs false
namespace Go.Proofs.YthppafnlnnpciaaGreatDoor
open Go.RowKit
attribute [local irreducible] wpList Calls Code.wp
variable {X:Cx} {nn:Nat} {st:Vst nn}
section
variable {K:Exit->Vst nn->Prop} {ops:Array Oper} {l:List Oper} {o:Oper}
variable {KK:Vst nn->Prop}
variable {d:Option Tmp}
def Vst.head (st:Vst nn) (ws:List Nat) (cs:List (Nat × V)) (names:List Nat) (ts:List (Nat × Res)):Vst nn:=
 ⟨fun i=>match cs.find? (fun p=>p.1==i) with | some p=>p.2 | none=>if ws.contains i then .any else st.tm i,
  fun m=>match ts.find? (fun p=>p.1==m) with | some p=>some p.2 | none=>if names.contains m then none else st.rs m⟩
end
end Go.Proofs.YthppafnlnnpciaaGreatDoor
