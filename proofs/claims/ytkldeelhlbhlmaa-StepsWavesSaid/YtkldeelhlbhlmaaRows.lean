/-
  NARROWER THAN 'FOR EVERY INPUT', by the rows' own cells (each row's printed sentence says how): StepsWaves: loops · StepsTree: loops · StepsTime: loops · StepsSequence: loops.
  DERIVED. THE GIVEN ROWS OF THIS SEAT. 5 by the template 'for every input the law returns true; each argument reads behind the call as it read before'; 0 by the template 'total and deterministic' (their statements: YtkldeelhlbhlmaaTotals.lean).
  GIVEN WITH THE SEED: the statements are not yours to turn. If you find one false, say at which input.
  Laid BY PROGRAM, IN A SANDBOX (cutbox-rows.mjs): the forced cells as the released guide's own fill.sh prints them over the translation 093bb044f3cc8103… (all of the seat's roots in one cut). By AI agents, Wed Nov 11 2026. No macro, syntax, notation, axiom, sorry.
-/
import Derived.Test.YtkldeelhlbhlmaaChecked
import GoSem.Claim
import GoSem.ClaimJoined
import GoSem.ClaimMapViews
import Derived.JoinedTies
import Derived.KernelRfl
namespace Go.Proofs.Ytkldeelhlbhlmaa
/- THE CELL 'sum', in the pinned program and in every row, IS THE sha256 OF THE DUMP (.gsa) THAT YtkldeelhlbhlmaaProg.lean LOADS. Nothing in Lean hashes anything: it is a label: what it is worth is what the hold of that sum in a sandbox is worth. -/
noncomputable def Try.pinned : Pinned := { name := "ytkldeelhlbhlmaa", sum := "093bb044f3cc8103b9b3c358307d9076ee299925e5b87954e32dcace5d4b3c01", checked := Try.checked }
namespace Rows
def none {H : Type} : Left H := { results := [], args := [] }

/-- 'supergraphlaw32.StepsWaves': WHATEVER THE INPUT: true; the input reads as it did. -/
def stepsWavesSpec : ChangeSpec := { name := "stepsWaves", fn := fun _ => fun
  | [d] => { results := [.lit (.bool true)], args := [d] }
  | _ => none }
def stepsWavesRow : OpenClaim := { program := "ytkldeelhlbhlmaa", sum := "093bb044f3cc8103b9b3c358307d9076ee299925e5b87954e32dcace5d4b3c01", func := "supergraph/supergraphlaw32.StepsWaves", spec := "stepsWaves", unfollowed := true, recurses := true, loops := true, apart := false }
def StepsWavesSaid : Prop := stepsWavesRow.holds Try.pinned (OpenSpec.ofChange stepsWavesSpec)

/-- ITS FALSE NEIGHBOUR: 'it returns false'. Refute it at one input. -/
def stepsWavesWrong : ChangeSpec := { name := "stepsWaves", fn := fun _ => fun
  | [d] => { results := [.lit (.bool false)], args := [d] }
  | _ => none }
def StepsWavesWrongFalsely : Prop := stepsWavesRow.holds Try.pinned (OpenSpec.ofChange stepsWavesWrong)

/-- 'supergraphlaw32.StepsTree': WHATEVER THE INPUT: true; the input reads as it did. -/
def stepsTreeSpec : ChangeSpec := { name := "stepsTree", fn := fun _ => fun
  | [d] => { results := [.lit (.bool true)], args := [d] }
  | _ => none }
def stepsTreeRow : OpenClaim := { program := "ytkldeelhlbhlmaa", sum := "093bb044f3cc8103b9b3c358307d9076ee299925e5b87954e32dcace5d4b3c01", func := "supergraph/supergraphlaw32.StepsTree", spec := "stepsTree", unfollowed := true, recurses := true, loops := true, apart := false }
def StepsTreeSaid : Prop := stepsTreeRow.holds Try.pinned (OpenSpec.ofChange stepsTreeSpec)

/-- ITS FALSE NEIGHBOUR: 'it returns false'. Refute it at one input. -/
def stepsTreeWrong : ChangeSpec := { name := "stepsTree", fn := fun _ => fun
  | [d] => { results := [.lit (.bool false)], args := [d] }
  | _ => none }
def StepsTreeWrongFalsely : Prop := stepsTreeRow.holds Try.pinned (OpenSpec.ofChange stepsTreeWrong)

/-- 'supergraphlaw32.StepsDepth': WHATEVER THE INPUT: true; the input reads as it did. -/
def stepsDepthSpec : ChangeSpec := { name := "stepsDepth", fn := fun _ => fun
  | [d] => { results := [.lit (.bool true)], args := [d] }
  | _ => none }
def stepsDepthRow : OpenClaim := { program := "ytkldeelhlbhlmaa", sum := "093bb044f3cc8103b9b3c358307d9076ee299925e5b87954e32dcace5d4b3c01", func := "supergraph/supergraphlaw32.StepsDepth", spec := "stepsDepth", unfollowed := true, recurses := true, apart := false }
def StepsDepthSaid : Prop := stepsDepthRow.holds Try.pinned (OpenSpec.ofChange stepsDepthSpec)

/-- ITS FALSE NEIGHBOUR: 'it returns false'. Refute it at one input. -/
def stepsDepthWrong : ChangeSpec := { name := "stepsDepth", fn := fun _ => fun
  | [d] => { results := [.lit (.bool false)], args := [d] }
  | _ => none }
def StepsDepthWrongFalsely : Prop := stepsDepthRow.holds Try.pinned (OpenSpec.ofChange stepsDepthWrong)

/-- 'supergraphlaw32.StepsTime': WHATEVER THE INPUT: true; the input reads as it did. -/
def stepsTimeSpec : ChangeSpec := { name := "stepsTime", fn := fun _ => fun
  | [d1, d2] => { results := [.lit (.bool true)], args := [d1, d2] }
  | _ => none }
def stepsTimeRow : OpenClaim := { program := "ytkldeelhlbhlmaa", sum := "093bb044f3cc8103b9b3c358307d9076ee299925e5b87954e32dcace5d4b3c01", func := "supergraph/supergraphlaw32.StepsTime", spec := "stepsTime", unfollowed := true, recurses := true, loops := true, apart := false }
def StepsTimeSaid : Prop := stepsTimeRow.holds Try.pinned (OpenSpec.ofChange stepsTimeSpec)

/-- ITS FALSE NEIGHBOUR: 'it returns false'. Refute it at one input. -/
def stepsTimeWrong : ChangeSpec := { name := "stepsTime", fn := fun _ => fun
  | [d1, d2] => { results := [.lit (.bool false)], args := [d1, d2] }
  | _ => none }
def StepsTimeWrongFalsely : Prop := stepsTimeRow.holds Try.pinned (OpenSpec.ofChange stepsTimeWrong)

/-- 'supergraphlaw32.StepsSequence': WHATEVER THE INPUT: true; the input reads as it did. -/
def stepsSequenceSpec : ChangeSpec := { name := "stepsSequence", fn := fun _ => fun
  | [d] => { results := [.lit (.bool true)], args := [d] }
  | _ => none }
def stepsSequenceRow : OpenClaim := { program := "ytkldeelhlbhlmaa", sum := "093bb044f3cc8103b9b3c358307d9076ee299925e5b87954e32dcace5d4b3c01", func := "supergraph/supergraphlaw32.StepsSequence", spec := "stepsSequence", unfollowed := true, recurses := true, loops := true, apart := false }
def StepsSequenceSaid : Prop := stepsSequenceRow.holds Try.pinned (OpenSpec.ofChange stepsSequenceSpec)

/-- ITS FALSE NEIGHBOUR: 'it returns false'. Refute it at one input. -/
def stepsSequenceWrong : ChangeSpec := { name := "stepsSequence", fn := fun _ => fun
  | [d] => { results := [.lit (.bool false)], args := [d] }
  | _ => none }
def StepsSequenceWrongFalsely : Prop := stepsSequenceRow.holds Try.pinned (OpenSpec.ofChange stepsSequenceWrong)

/- THE SECOND FORM. 'bulk': how many values and letters a reading holds, each counted each time it is reached (what is shared counts as often as it is met; a slice's spare places count too). A statement '..UptoSaid' is the law's where the arguments, and the package variables that the reading takes, are together of bulk at most 1048576: NARROWER than '..Said'. Prove '..Said' where nothing that the law and all that it calls make is longer than what came in: it says more and counts as full. Else prove '..UptoSaid'. A law counts once. -/
mutual
def uptoBulk {H : Type} : DataW H → Nat
  | .lit (.string bytes) => bytes.length + 1
  | .lit _ => 1
  | .nil => 1
  | .ptr d => uptoBulk d + 1
  | .slice elems spare => uptoBulkAll elems + uptoBulkAll spare + 1
  | .agg parts => uptoBulkAll parts + 1
  | .iface _ d => uptoBulk d + 1
  | .map entries => uptoBulkEntries entries + 1
  | .held _ => 1
def uptoBulkAll {H : Type} : List (DataW H) → Nat
  | [] => 0
  | d :: r => uptoBulk d + uptoBulkAll r
def uptoBulkEntries {H : Type} : List (Lit × DataW H) → Nat
  | [] => 0
  | x :: r => uptoBulkEntry x + uptoBulkEntries r
def uptoBulkEntry {H : Type} : Lit × DataW H → Nat
  | (.string bytes, d) => bytes.length + uptoBulk d + 1
  | (_, d) => uptoBulk d + 1
 end
def uptoSmall : (H : Type) → List (DataW H) → Bool := fun _ ds => decide (uptoBulkAll ds ≤ 1048576)
def OpenSpec.upto (s : _root_.Go.ChangeSpec) : _root_.Go.OpenSpec := { _root_.Go.OpenSpec.ofChange s with cond := some uptoSmall }

/-- 'supergraphlaw32.StepsWaves', WHERE WHAT IT READS IS OF BULK AT MOST 1048576: true; the input reads as it did. -/
def stepsWavesUptoRow : OpenClaim := { program := "ytkldeelhlbhlmaa", sum := "093bb044f3cc8103b9b3c358307d9076ee299925e5b87954e32dcace5d4b3c01", func := "supergraph/supergraphlaw32.StepsWaves", spec := "stepsWaves", unfollowed := true, recurses := true, loops := true, apart := false, narrowed := true }
def StepsWavesUptoSaid : Prop := stepsWavesUptoRow.holds Try.pinned (OpenSpec.upto stepsWavesSpec)

/-- 'supergraphlaw32.StepsTree', WHERE WHAT IT READS IS OF BULK AT MOST 1048576: true; the input reads as it did. -/
def stepsTreeUptoRow : OpenClaim := { program := "ytkldeelhlbhlmaa", sum := "093bb044f3cc8103b9b3c358307d9076ee299925e5b87954e32dcace5d4b3c01", func := "supergraph/supergraphlaw32.StepsTree", spec := "stepsTree", unfollowed := true, recurses := true, loops := true, apart := false, narrowed := true }
def StepsTreeUptoSaid : Prop := stepsTreeUptoRow.holds Try.pinned (OpenSpec.upto stepsTreeSpec)

/-- 'supergraphlaw32.StepsDepth', WHERE WHAT IT READS IS OF BULK AT MOST 1048576: true; the input reads as it did. -/
def stepsDepthUptoRow : OpenClaim := { program := "ytkldeelhlbhlmaa", sum := "093bb044f3cc8103b9b3c358307d9076ee299925e5b87954e32dcace5d4b3c01", func := "supergraph/supergraphlaw32.StepsDepth", spec := "stepsDepth", unfollowed := true, recurses := true, apart := false, narrowed := true }
def StepsDepthUptoSaid : Prop := stepsDepthUptoRow.holds Try.pinned (OpenSpec.upto stepsDepthSpec)

/-- 'supergraphlaw32.StepsTime', WHERE WHAT IT READS IS OF BULK AT MOST 1048576: true; the input reads as it did. -/
def stepsTimeUptoRow : OpenClaim := { program := "ytkldeelhlbhlmaa", sum := "093bb044f3cc8103b9b3c358307d9076ee299925e5b87954e32dcace5d4b3c01", func := "supergraph/supergraphlaw32.StepsTime", spec := "stepsTime", unfollowed := true, recurses := true, loops := true, apart := false, narrowed := true }
def StepsTimeUptoSaid : Prop := stepsTimeUptoRow.holds Try.pinned (OpenSpec.upto stepsTimeSpec)

/-- 'supergraphlaw32.StepsSequence', WHERE WHAT IT READS IS OF BULK AT MOST 1048576: true; the input reads as it did. -/
def stepsSequenceUptoRow : OpenClaim := { program := "ytkldeelhlbhlmaa", sum := "093bb044f3cc8103b9b3c358307d9076ee299925e5b87954e32dcace5d4b3c01", func := "supergraph/supergraphlaw32.StepsSequence", spec := "stepsSequence", unfollowed := true, recurses := true, loops := true, apart := false, narrowed := true }
def StepsSequenceUptoSaid : Prop := stepsSequenceUptoRow.holds Try.pinned (OpenSpec.upto stepsSequenceSpec)

end Rows
end Go.Proofs.Ytkldeelhlbhlmaa
