/- A list of steps, as an argument. -/
import Derived.Test.YtkldeelhlbhlmaaS
import Derived.Test.YtkldeelhlbhlmaaZ
namespace Go.Proofs.Ytkldeelhlbhlmaa
open Go.ChangeShapes Go.WideShapes Go.ChangeAt Go.RowKit
attribute [local irreducible] wpList Calls Code.wp
def toS (d : D) : Int × Int := ((d.f 0).n, (d.f 1).n)
theorem sp_of_sl {w : World} {I : Nat → Prop} {k : Nat} {A : Option Addr} {l : List D} (h : Sl Try.prog w I k 60 A l) : Sp w I A (l.map toS) := fun hn => by
  rw [List.length_map] at hn
  obtain ⟨b, off, hA, hb, hi⟩ := h hn (by rw [cells60]; omega)
  refine ⟨b, off, hA, hb, fun i hil => ?_⟩
  rw [List.length_map] at hil
  have e : gS (l.map toS) i = toS (gD l i) := by simp [gS, gD, List.getElem?_eq_getElem hil]
  rw [e]
  obtain ⟨ys, y1, y2, y3⟩ := hi i hil
  rw [cells60] at y2
  obtain ⟨rfl, _, _⟩ := open60_any y3
  exact ⟨y2 0 _ rfl, y2 1 _ rfl⟩
theorem steps_arg {H : Type} {enc : TypeId × Value → H} {W : World} {v : Value} {base : Nat} {d : DataW H} {ps : List MemPlace} (hv : Value.okWide Try.prog W .any base 47 v)
    (hd : DataW.Trod enc Try.prog W 0 (fun _ => true) true 47 v d ps) :
    ∃ (A : Option Addr) (c : Nat) (l : List (Int × Int)), v = .slice A l.length c ∧ Sp W (fun k => k < W.heap.size) A l ∧ l.length ≤ 9223372036854775807 := by
  obtain ⟨A, n, c, rfl⟩ := okWide_slice Try.underlying47 hv
  obtain ⟨k, d, hr⟩ := rep_of_Trod hd
  obtain ⟨A2, c2, e, s2a, s2b, s2c, s2⟩ := hr.sliceAny Try.underlying47
  simp only [Value.cells, List.cons.injEq, Value.slice.injEq, and_true] at e
  obtain ⟨rfl, rfl, rfl⟩ := e
  exact ⟨A, c, d.l.map toS, by rw [List.length_map], sp_of_sl s2, by rw [List.length_map]; exact Nat.le_trans s2a s2b⟩
end Go.Proofs.Ytkldeelhlbhlmaa
