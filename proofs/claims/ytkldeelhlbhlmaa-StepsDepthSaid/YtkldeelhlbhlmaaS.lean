/- From the rows' reading of plans and lists of numbers to what the contracts ask. -/
import Derived.Test.YtkldeelhlbhlmaaTy
import Derived.Test.YtkldeelhlbhlmaaR
import Derived.Test.YtkldeelhlbhlmaaGive
import Derived.ProofKit
import Derived.Lib.LaidTab
import Derived.OpenShut
import Derived.Deep.DeepHandedRow
namespace Go.Proofs.Ytkldeelhlbhlmaa
open Go.ChangeShapes Go.WideShapes Go.ChangeAt Go.RowKit
attribute [local irreducible] wpList Calls Code.wp
theorem own : ownKnob Try.prog.godebug = none := by kernel_rfl
theorem laidOut' : laidOutB Try.prog = true := by kernel_rfl
theorem types_ok (ts : List TypeId) (h : (ts.all fun t => Try.prog.readableRec t && decide (t < Try.prog.types.size)) = true) : ∀ t ∈ ts, Try.prog.readableRec t = true ∧ t < Try.prog.types.size := by
  intro t ht
  have := List.all_eq_true.1 h t ht
  simpa using this
theorem is_of_sl {w : World} {I : Nat → Prop} {k : Nat} {A : Option Addr} {l : List D} (h : Sl Try.prog w I k 3 A l) : Is w I A (l.map D.n) := by
  refine ⟨by simp [ints], fun hn => ?_⟩
  rw [List.length_map] at hn
  obtain ⟨b, off, hA, hb, hi⟩ := h hn (by rw [cells3]; omega)
  refine ⟨b, off, hA, hb, fun j u hu => ?_⟩
  have hj : j < l.length := by have := (List.getElem?_eq_some_iff.1 hu).1; simpa [ints] using this
  obtain ⟨ys, y1, y2, y3⟩ := hi j hj
  obtain ⟨rfl, _⟩ := y3.int Try.underlying3
  have := y2 0 _ rfl
  rw [cells3, Nat.mul_one, Nat.add_zero] at this
  rw [this]
  simpa [ints, gD, List.getElem?_eq_getElem hj] using hu
def toF (d : D) : Int × List Int := ((d.f 1).n, (d.f 7).l.map D.n)
theorem gF_map {l : List D} {i : Nat} (h : i < l.length) : gF (l.map toF) i = toF (gD l i) := by
  simp [gF, gD, List.getElem?_eq_getElem h]
theorem wf_range {n : Int} (h : (Lit.int .i64 n).wf = true) : -9223372036854775808 ≤ n ∧ n ≤ 9223372036854775807 := by
  simp only [Lit.wf, Bool.and_eq_true, decide_eq_true_eq] at h
  obtain ⟨h1, h2⟩ := h
  have h3 : (n : Int) < 9223372036854775808 := Int.lt_of_le_of_lt h2 (by decide)
  exact ⟨Int.le_trans (by decide) h1, by omega⟩
theorem pl_of_sl {w : World} {I : Nat → Prop} {k : Nat} {A : Option Addr} {l : List D} (h : Sl Try.prog w I k 45 A l) : Pl w I A (l.map toF) := fun hn => by
  rw [List.length_map] at hn
  obtain ⟨b, off, hA, hb, hi⟩ := h hn (by rw [cells45]; omega)
  refine ⟨b, off, hA, hb, fun i hil => ?_⟩
  rw [List.length_map] at hil
  rw [gF_map hil]
  obtain ⟨ys, y1, y2, y3⟩ := hi i hil
  rw [cells45] at y2
  obtain ⟨A2, c2, A4, c4, A6, c6, A7, c7, rfl, r0, r1, _, r3, _, r5, _, ⟨s7a, s7b, s7c, s7⟩⟩ := open45_any y3
  have hr := wf_range r1
  have hl : (toF (gD l i)).2.length = ((gD l i).f 7).l.length := by simp [toF]
  refine ⟨_, _, _, _, _, _, _, _, _, _, _, _, A7, c7, y2 0 _ rfl, y2 1 _ rfl, y2 2 _ rfl, y2 3 _ rfl, y2 4 _ rfl, y2 5 _ rfl, y2 6 _ rfl, ?_, is_of_sl s7, ?_, hr⟩
  · rw [hl]; exact y2 7 _ rfl
  · rw [hl]; exact Nat.le_trans s7a s7b
/-- a plan, as an argument -/
theorem plan_arg {H : Type} {enc : TypeId × Value → H} {W : World} {v : Value} {base : Nat} {d : DataW H} {ps : List MemPlace} (hv : Value.okWide Try.prog W .any base 25 v)
    (hd : DataW.Trod enc Try.prog W 0 (fun _ => true) true 25 v d ps) :
    ∃ (kd : Int) (B : Option Addr) (bn bc : Nat) (A : Option Addr) (c : Nat) (fs : List (Int × List Int)), v = plan kd B bn bc A fs.length c ∧ Pl W (fun k => k < W.heap.size) A fs ∧ fs.length ≤ 9223372036854775807 := by
  obtain ⟨cs, rfl, _⟩ := okWide_struct Try.underlying25 hv
  obtain ⟨k, d, hr⟩ := rep_of_Trod hd
  obtain ⟨A1, c1, A2, c2, e, r0, s1, ⟨s2a, s2b, s2c, s2⟩⟩ := open25 hr
  have e2 : cs = #[.int .i64 (d.f 0).n, .slice A1 (d.f 1).l.length c1, .slice A2 (d.f 2).l.length c2] := by
    apply Array.ext'
    simpa [Value.cells] using e
  subst e2
  refine ⟨_, _, _, _, A2, c2, (d.f 2).l.map toF, by rw [List.length_map]; rfl, pl_of_sl s2, ?_⟩
  rw [List.length_map]
  exact Nat.le_trans s2a s2b
/-- a list of numbers, as an argument -/
theorem ints_arg {H : Type} {enc : TypeId × Value → H} {W : World} {v : Value} {base : Nat} {d : DataW H} {ps : List MemPlace} (hv : Value.okWide Try.prog W .any base 31 v)
    (hd : DataW.Trod enc Try.prog W 0 (fun _ => true) true 31 v d ps) :
    ∃ (A : Option Addr) (c : Nat) (l : List Int), v = .slice A l.length c ∧ Is W (fun k => k < W.heap.size) A l ∧ l.length ≤ 9223372036854775807 := by
  obtain ⟨A, n, c, rfl⟩ := okWide_slice Try.underlying31 hv
  obtain ⟨k, d, hr⟩ := rep_of_Trod hd
  obtain ⟨A2, c2, e, s2a, s2b, s2c, s2⟩ := hr.sliceAny Try.underlying31
  simp only [Value.cells, List.cons.injEq, Value.slice.injEq, and_true] at e
  obtain ⟨rfl, rfl, rfl⟩ := e
  exact ⟨A, c, d.l.map D.n, by rw [List.length_map], is_of_sl s2, by rw [List.length_map]; exact Nat.le_trans s2a s2b⟩
end Go.Proofs.Ytkldeelhlbhlmaa
