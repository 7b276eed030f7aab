/- Parts of a proof, merged by a program (shake.py). -/
import Derived.WalkKit
import Derived.WalkSpells
import Derived.WalkLawsBesides
import Derived.Deep.OwnRows
import Derived.Deep.Draws
import Derived.Deep.LoopGhost
import Derived.Deep.QuietTactic
import Derived.Deep.RegionHeld3
import Derived.BigQuiet
import Derived.Handy
import Derived.Lib.Hide
import Derived.Maps.AppendAt
import Derived.ArgAppend
import Derived.Laws.CopyOwn
import Derived.Laws.BitsAllLaws
import Derived.StillTailTactics
set_option linter.unusedVariables false
set_option linter.unusedSimpArgs false
namespace Go.Proofs.YtdklhkdlndlgnaaGreatDoor
open Go.RowKit
/-- the blocks of which I speaks hold in w' what they held in w -/
def Same (I : Nat → Prop) (w w' : World) : Prop := ∀ k, I k → w'.heap[k]? = w.heap[k]?
theorem Same.cell {I : Nat → Prop} {w w' : World} (h : Same I w w') {b o : Nat} (hb : I b) : w'.cell? ⟨b, o, none⟩ = w.cell? ⟨b, o, none⟩ := World.cell?_of_block (w := w) (h b hb)
theorem Same.refl (I : Nat → Prop) (w : World) : Same I w w := fun _ _ => rfl
theorem Same.trans {I : Nat → Prop} {w w' w'' : World} (h : Same I w w') (k : Same I w' w'') : Same I w w'' := fun i hi => (k i hi).trans (h i hi)
theorem Same.below {B : Nat} {I : Nat → Prop} {w w' : World} (h : Below B w w') (hI : ∀ k, I k → k < B) : Same I w w' := fun k hk => h.block k (hI k hk)
/-- a slice value at address A, of n elements of 'size' cells each, holds the cells xs, in blocks of which I speaks -/
def Rd (w : World) (I : Nat → Prop) (size : Nat) (A : Option Addr) (n : Nat) (xs : List Value) : Prop :=
  xs.length = n * size ∧ (0 < n → ∃ b off, A = some ⟨b, off, none⟩ ∧ I b ∧ ∀ j u, xs[j]? = some u → w.cell? ⟨b, off + j, none⟩ = some u)
theorem Rd.same {w w' : World} {I : Nat → Prop} {size n : Nat} {A : Option Addr} {xs : List Value} (h : Rd w I size A n xs) (hs : Same I w w') : Rd w' I size A n xs :=
  ⟨h.1, fun hn => by
    obtain ⟨b, off, hA, hb, hc⟩ := h.2 hn
    exact ⟨b, off, hA, hb, fun j u hu => (hs.cell hb).trans (hc j u hu)⟩⟩
theorem Rd.mono {w : World} {I J : Nat → Prop} {size n : Nat} {A : Option Addr} {xs : List Value} (h : Rd w I size A n xs) (hI : ∀ k, I k → J k) : Rd w J size A n xs :=
  ⟨h.1, fun hn => by
    obtain ⟨b, off, hA, hb, hc⟩ := h.2 hn
    exact ⟨b, off, hA, hI _ hb, hc⟩⟩
theorem Rd.nil (w : World) (I : Nat → Prop) (size : Nat) (A : Option Addr) : Rd w I size A 0 [] := ⟨by simp, fun h => absurd h (by omega)⟩
theorem add_plain (b off j : Nat) : (⟨b, off, none⟩ : Addr).add j = ⟨b, off + j, none⟩ := by unfold Addr.add; split <;> simp_all
/-- the element type's row, in three facts -/
theorem info3 {P : Program} {e : TypeId} {z : Value} {size bytes : Nat} (h : (P.info? e).map (fun i => (i.zero, i.size, i.bytes)) = some (some z, size, bytes)) :
    ∃ i, P.info? e = some i ∧ i.zero = some z ∧ i.size = size ∧ i.bytes = bytes := by
  obtain ⟨i, hi, hz⟩ := Option.map_eq_some_iff.1 h
  simp only [Prod.mk.injEq] at hz
  exact ⟨i, hi, hz.1, hz.2.1, hz.2.2⟩
end Go.Proofs.YtdklhkdlndlgnaaGreatDoor
