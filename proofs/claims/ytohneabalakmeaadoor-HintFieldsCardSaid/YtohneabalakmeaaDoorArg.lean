/- Arguments that are structs. -/
import Derived.Test.YtohneabalakmeaaDoorTy
import Derived.Test.YtohneabalakmeaaDoorK
namespace Go.Proofs.YtohneabalakmeaaDoor
open Go.ChangeShapes Go.WideShapes Go.ChangeAt Go.RowKit
attribute [local irreducible] wpList Calls Code.wp
theorem wf_range {n : Int} (h : (Lit.int .i64 n).wf = true) : -9223372036854775808 ≤ n ∧ n ≤ 9223372036854775807 := by
  simp only [Lit.wf, Bool.and_eq_true, decide_eq_true_eq] at h
  obtain ⟨h1, h2⟩ := h
  have h3 : (n : Int) < 9223372036854775808 := Int.lt_of_le_of_lt h2 (by decide)
  exact ⟨Int.le_trans (by decide) h1, by omega⟩
set_option maxRecDepth 100000 in
theorem hint_arg {H : Type} {enc : TypeId × Value → H} {W : World} {v : Value} {base : Nat} {d : DataW H} {ps : List MemPlace} (hv : Value.okWide Tryd.prog W .any base 33 v)
    (hd : DataW.Trod enc Tryd.prog W 0 (fun _ => true) true 33 v d ps) :
    ∃ (n : Int) (b : Bool), v = .agg #[.int .i64 n, .bool b] ∧ -9223372036854775808 ≤ n ∧ n ≤ 9223372036854775807 := by
  obtain ⟨cs, rfl, _⟩ := okWide_struct Tryd.underlying33 hv
  obtain ⟨k, d, hr⟩ := rep_of_Trod hd
  obtain ⟨e, r0⟩ := open33 hr
  have e2 : cs = #[.int .i64 (d.f 0).n, .bool (d.f 1).b] := by
    apply Array.ext'
    simpa [Value.cells] using e
  subst e2
  exact ⟨_, _, rfl, wf_range r0⟩
set_option maxRecDepth 100000 in
theorem doc_arg {H : Type} {enc : TypeId × Value → H} {W : World} {v : Value} {base : Nat} {d : DataW H} {ps : List MemPlace} (hv : Value.okWide Tryd.prog W .any base 42 v)
    (hd : DataW.Trod enc Tryd.prog W 0 (fun _ => true) true 42 v d ps) :
    ∃ (k : Nat) (A : Option Addr) (l : List D) (c : Nat), v = .agg #[.slice A l.length c] ∧ l.length ≤ c ∧ c ≤ maxLen ∧ Sl Tryd.prog W (fun b => b < W.heap.size) k 58 A l := by
  obtain ⟨cs, rfl, _⟩ := okWide_struct Tryd.underlying42 hv
  obtain ⟨k, d, hr⟩ := rep_of_Trod hd
  obtain ⟨A0, c0, e, ⟨h1, h2, h3, h4⟩⟩ := open42 hr
  have e2 : cs = #[.slice A0 (d.f 0).l.length c0] := by
    apply Array.ext'
    simpa [Value.cells] using e
  subst e2
  exact ⟨k, A0, _, c0, rfl, h1, h2, h4⟩
set_option maxRecDepth 100000 in
theorem value_arg {H : Type} {enc : TypeId × Value → H} {W : World} {v : Value} {base : Nat} {d : DataW H} {ps : List MemPlace} (hv : Value.okWide Tryd.prog W .any base 49 v)
    (hd : DataW.Trod enc Tryd.prog W 0 (fun _ => true) true 49 v d ps) :
    ∃ (k : Nat) (cs : Array Value) (d : D), v = .agg cs ∧ Rep Tryd.prog W (fun b => b < W.heap.size) (k + 1) 49 cs.toList d := by
  obtain ⟨cs, rfl, _⟩ := okWide_struct Tryd.underlying49 hv
  obtain ⟨k, d, hr⟩ := rep_of_Trod hd
  exact ⟨k, cs, d, rfl, by simpa [Value.cells] using hr⟩
end Go.Proofs.YtohneabalakmeaaDoor
