/- Parts of a proof, merged by a program (shake.py). -/
import Derived.Test.YtohneabalakmeaaDoorDq34
namespace Go.Proofs.YtohneabalakmeaaDoor
open Go.RowKit
attribute [local irreducible] wpList Calls Code.wp AW AWo OpOk seqK blockK scopeK loopK endK AC absLex Yld Sub
def linesB (ts : List (List UInt8)) : List UInt8 := (ts.map fun t => [32, 32] ++ t ++ [10]).flatten
theorem linesB_step {ts : List (List UInt8)} {i : Nat} (h : i < ts.length) : linesB (ts.take (i + 1)) = linesB (ts.take i) ++ ([32, 32] ++ gU ts i ++ [10]) := by
  unfold linesB
  rw [take_gU h, List.map_append, List.flatten_append]
  simp
theorem linesB_mono (ts : List (List UInt8)) (m : Nat) : (linesB (ts.take m)).length ≤ (linesB ts).length := by
  conv => rhs; rw [← List.take_append_drop m ts]
  unfold linesB
  rw [List.map_append, List.flatten_append, List.length_append]
  omega
theorem linesB_nil : linesB [] = [] := rfl
theorem linesB_size {ts : List (List UInt8)} {i : Nat} (h : i < ts.length) (hl : (linesB ts).length ≤ 100000000) : (linesB (ts.take i)).length + (gU ts i).length + 3 ≤ 100000000 := by
  have := linesB_mono ts (i + 1)
  rw [linesB_step h] at this
  simp only [List.length_append, List.length_cons, List.length_nil] at this
  omega
end Go.Proofs.YtohneabalakmeaaDoor
