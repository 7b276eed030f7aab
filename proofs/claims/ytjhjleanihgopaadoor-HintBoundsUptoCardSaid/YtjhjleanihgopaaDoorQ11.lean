/- Parts of a proof, merged by a program (shake.py). -/
import Derived.Test.YtjhjleanihgopaaDoorQ10
namespace Go.Proofs.YtjhjleanihgopaaDoor
open Go.RowKit
attribute [local irreducible] wpList Calls Code.wp
section
variable {P : Program} {s : Sg} {w w' : World}
variable {pas : Nat → Prop} {B : Nat} {rs : Nat → Option Res}
/-- cells of a block that no longer turn from now on -/
def Sg.tok (s : Sg) (k g n : Nat) (v : Value) (m : Nat) : Sg := { F := fun b o => s.F b o ∨ (b = g ∧ o < n), bx := s.bx, tb := fun q => if q = k then some g else s.tb q, tk := fun q => if q = k then (v, m) else s.tk q }
end
end Go.Proofs.YtjhjleanihgopaaDoor
