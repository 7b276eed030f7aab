/- Parts of a proof, merged by a program (shake.py). -/
import Derived.Scope
import Derived.Test.YthjiclhfhjdjpaaGreatDoorR1
set_option linter.unusedVariables false
set_option linter.unusedSimpArgs false
namespace Go.Proofs.YthjiclhfhjdjpaaGreatDoor
open Go.RowKit
attribute [local irreducible] wpList Calls Code.wp
variable {X : Cx} {nn : Nat} {st : Vst nn}
section
variable {K : Exit → Vst nn → Prop} {ops : Array Oper} {l : List Oper} {o : Oper}
theorem k_scope (h : K .normal st) : scopeK K .normal st := h
theorem k_scope_exit {id : Nat} (h : K (.exit id) st) : scopeK K (.exit id) st := h
variable {KK : Vst nn → Prop}
variable {d : Option Tmp}
theorem s_app_nil {t e : TypeId} {by_ m : Nat} {x y : Operand} {l2 : List D} (hg : o.guard = none) (ho : o.op = .call { callee := .builtin .append, args := #[x, y], argTypes := #[t, t] }) (hd : o.dst = some m) (hdl : Nat.ble m 999999 = true) (he : elemOk X.P t = some (e, by_))
    (hleaf : ∀ d, (cellsV X.P 12 e d).all V.leaf = true) (hx : ev st x = .c (.slice none 0 0)) (hy : (ev st y).out = .sl e l2) (hK : AWo X ops l (((st.kill m).res m (.tok e l2.length)).put (some m) (.own m e l2)) KK)
    (hp : 0 < l2.length ∧ l2.length ≤ maxLen ∧ l2.length * by_ ≤ 140737488355328) : AWo X ops (o :: l) st KK :=
  awo_cons hg (opOk_append_nil ho hd hdl he hleaf hx hy hp.1 hp.2.1 hp.2.2 hK)
theorem k_end {P : Program} {rs : Array ResultVar} {r : V} (h : retV P st rs.toList r) : endK P rs r .normal st := h
/-- the state at a loop's head: what the loop writes is unknown, what it carries is named -/
def Vst.head (st : Vst nn) (ws : List Nat) (cs : List (Nat × V)) (names : List Nat) (ts : List (Nat × Res)) : Vst nn :=
  ⟨fun i => match cs.find? (fun p => p.1 == i) with | some p => p.2 | none => if ws.contains i then .any else st.tm i,
   fun m => match ts.find? (fun p => p.1 == m) with | some p => some p.2 | none => if names.contains m then none else st.rs m⟩
end
end Go.Proofs.YthjiclhfhjdjpaaGreatDoor
