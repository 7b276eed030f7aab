/- Parts of a proof, merged by a program (shake.py). -/
import Derived.Test.YtohneabalakmeaaDoorDq35
namespace Go.Proofs.YtohneabalakmeaaDoor
open Go.RowKit
attribute [local irreducible] wpList Calls Code.wp AW AWo OpOk seqK blockK scopeK loopK endK AC absLex Yld Sub
def kwL : List (List UInt8) := [[], [116, 121, 112, 101, 32], [105, 110, 116, 101, 114, 102, 97, 99, 101, 32], [117, 110, 105, 111, 110, 32], [101, 110, 117, 109, 32], [105, 110, 112, 117, 116, 32]]
def kwD : List D := [.str ⟨#[]⟩, .str ⟨#[116, 121, 112, 101, 32]⟩, .str ⟨#[105, 110, 116, 101, 114, 102, 97, 99, 101, 32]⟩, .str ⟨#[117, 110, 105, 111, 110, 32]⟩, .str ⟨#[101, 110, 117, 109, 32]⟩, .str ⟨#[105, 110, 112, 117, 116, 32]⟩]
theorem kw_at {n : Int} (h : 1 ≤ n ∧ n ≤ 5) : (gD kwD n.toNat).s = bs (gU kwL n.toNat) ∧ (gU kwL n.toNat).length ≤ 10 := by
  have : n.toNat = 1 ∨ n.toNat = 2 ∨ n.toNat = 3 ∨ n.toNat = 4 ∨ n.toNat = 5 := by omega
  rcases this with e | e | e | e | e <;> rw [e] <;> exact ⟨rfl, by decide⟩
def headB (k : Int) (n dt : List UInt8) (im : List (List UInt8)) : List UInt8 :=
  gU kwL k.toNat ++ n ++ (if k = 1 ∧ 0 < im.length then [32, 105, 109, 112, 108, 101, 109, 101, 110, 116, 115, 32] ++ Lib.join im [32, 38, 32] else []) ++ dt
def blockB (k : Int) (n dt : List UInt8) (im mn ts : List (List UInt8)) : List UInt8 :=
  headB k n dt im ++ (if k = 3 then [32, 61, 32] ++ Lib.join mn [32, 124, 32] ++ [10] else [32, 123, 10] ++ linesB ts ++ [125, 10])
end Go.Proofs.YtohneabalakmeaaDoor
