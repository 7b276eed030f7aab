/-
  DERIVED. GIVEN WITH THE SEED: THE CARDS: each row of YtdklhkdlndlgnaaGreatDoorRows.lean that lists a variable, with what it lists TIED to the program's text (the seventh form; the later family's looks); each row that meets fmt, with fmt's text TOLD by the authors' own Lean function (tested against real Go, not proved from fmt's source: count such statements apart). THE CARD IS WHAT COUNTS. Prove the row's statement (the work); the ties are given (YtdklhkdlndlgnaaGreatDoorTie.lean); close each card by the builder's one call (the guide's Derived/Test/ToyasCard.lean, 'card_holds'). Laid BY PROGRAM, IN A SANDBOX (cutbox-door.mjs). By AI agents, Wed Nov 11 2026. No macro, syntax, notation, axiom, sorry.
-/
import Derived.Test.YtdklhkdlndlgnaaGreatDoorRows
import GoSem.ClaimSeven
namespace Go.Proofs.YtdklhkdlndlgnaaGreatDoor
namespace Rows

/-- THE TIED CARD OF 'supergraphlaw55.ScriptLineExact'. -/
def scriptLineExactCard : Claim7 := { stood := { row := scriptLineExactRow, standIns := [], harness := (true, "3b52a1da3ebcaf0fd13278e11bd4b8bcb928002c20ca3b502359aba4757d890d"), looks := true }, kinds := [], alts := [], laidByText := true, laidKinds := [.data, .data, .data, .data, .sentinel, .sentinel, .pinned], laidTests := true, laidLooks := .later }
def ScriptLineExactCardSaid : Prop := Claim7.holds Tryz.pinned (.plain (OpenSpec.ofChange scriptLineExactSpec)) scriptLineExactCard

/-- THE SECOND FORM's CARD OF 'supergraphlaw55.ScriptLineExact'. -/
def scriptLineExactUptoCard : Claim7 := { stood := { row := scriptLineExactUptoRow, standIns := [], harness := (true, "3b52a1da3ebcaf0fd13278e11bd4b8bcb928002c20ca3b502359aba4757d890d"), looks := true }, kinds := [], alts := [], laidByText := true, laidKinds := [.data, .data, .data, .data, .sentinel, .sentinel, .pinned], laidTests := true, laidLooks := .later }
def ScriptLineExactUptoCardSaid : Prop := Claim7.holds Tryz.pinned (.plain (OpenSpec.upto scriptLineExactSpec)) scriptLineExactUptoCard
end Rows
end Go.Proofs.YtdklhkdlndlgnaaGreatDoor
