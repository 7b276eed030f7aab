/- Parts of a proof, merged by a program (shake.py). -/
import Derived.Test.YtohneabalakmeaaDoorDq47
namespace Go.Proofs.YtohneabalakmeaaDoor
open Go.ChangeShapes Go.WideShapes Go.ChangeAt Go.RowKit
attribute [local irreducible] wpList Calls Code.wp
set_option maxRecDepth 100000 in
/-- what an argument holds -/
theorem arg_in {H : Type} {enc : TypeId × Value → H} {W : World} {v : Value} {base : Nat} {dw : DataW H} {ps : List MemPlace} {t : TypeId} {fs : Array Field} (ht : Tryd.prog.underlying t = some (.struct fs)) (hv : Value.okWide Tryd.prog W .any base t v)
    (hd : DataW.Trod enc Tryd.prog W 0 (fun _ => true) true t v dw ps) :
    ∃ (k : Nat) (cs : Array Value) (d : D), v = .agg cs ∧ Rep Tryd.prog W (fun b => b < W.heap.size) k t cs.toList d ∧ Fits Tryd.prog k t d ∧ bulkD d ≤ Rows.uptoBulk dw := by
  obtain ⟨cs, rfl, _⟩ := okWide_struct ht hv
  obtain ⟨k, hk⟩ := hd
  obtain ⟨d, h1, h2, h3⟩ := rep_of_trod2 hk
  exact ⟨k, cs, d, rfl, by simpa [Value.cells] using h1, h2, h3⟩
set_option maxRecDepth 100000 in
theorem rep_len {P : Program} {w : World} {I : Nat → Prop} {k : Nat} {t : TypeId} {cs : List Value} {d : D} {fs : Array Field} (ht : P.underlying t = some (.struct fs)) (h : Rep P w I k t cs d) : cs.length = P.cellsOf t := by
  cases k with
  | zero => exact h.elim
  | succ k => unfold Rep at h; rw [ht] at h; exact h.1
/-- the reading at the call -/
def sg0 (W : World) : Sg := ⟨fun b o => (W.cell? ⟨b, o, none⟩).isSome, fun _ => none, fun _ => none, fun _ => (undef, 0)⟩
set_option maxRecDepth 100000 in
theorem cells0 {W : World} {k : Nat} {t : TypeId} {cs : Array Value} {d : D} {fs : Array Field} (ht : Tryd.prog.underlying t = some (.struct fs)) (hl : layB Tryd.prog 12 t = true) (hr : Rep Tryd.prog W (fun b => b < W.heap.size) k t cs.toList d) : rel Tryd.prog (sg0 W) W (.agg (cellsV Tryd.prog 12 t d)) (.agg cs) := by
  rw [rel]
  exact ⟨cs, rfl, cells_rel (s := sg0 W) 12 k t cs.toList d (RepF.of_rep hr fun b o _ h => h) (rep_len ht hr) hl⟩
set_option maxRecDepth 100000 in
theorem calls_of_ac {f : FuncId} {args : List V} {W : World} {us : Array Value} (h : AC EN Tryd.prog f args (.c (.bool true))) (hr : relL Tryd.prog (sg0 W) W args us.toList) (he : EnvT W) : Calls Tryd.prog f us W fun e W' => e = .returned (.bool true) ∧ Below W.heap.size W W' := by
  refine (h (sg0 W) W us hr (fun b o h => h) he).mono ?_
  rintro e W' ⟨v, F', rfl, hfr, -, -, -, hv⟩
  rw [rel] at hv
  obtain ⟨rfl, -⟩ := hv
  exact ⟨rfl, hfr.below⟩
set_option maxRecDepth 100000 in
theorem relL1 {P : Program} {s : Sg} {w : World} {v : V} {u : Value} (h : rel P s w v u) : relL P s w [v] (#[u] : Array Value).toList := by
  show relL P s w [v] [u]
  rw [relL]; exact ⟨h, by simp [relL]⟩
set_option maxRecDepth 100000 in
theorem upto_one {H : Type} {d : DataW H} {gs : List (DataW H)} (h : Rows.uptoSmall H (d :: gs) = true) : Rows.uptoBulk d ≤ 1048576 := by
  have h1 : Rows.uptoBulkAll (d :: gs) ≤ 1048576 := of_decide_eq_true h
  rw [Rows.uptoBulkAll] at h1
  omega
def laidL7 : List (String × DataW Unit) := [("math/bits.deBruijn32tab", Rows.laid_math_bits_deBruijn32tab), ("math/bits.deBruijn64tab", Rows.laid_math_bits_deBruijn64tab), ("internal/strconv.uint64pow10", Rows.laid_internal_strconv_uint64pow10)]
set_option maxRecDepth 100000 in
theorem env7_of_laid {W : World} (h : laidMetH Tryd.prog laidL7 W) : EnvT W := by
  have h' : laidMet Tryd.prog laidL7 W := h
  obtain ⟨ps, ⟨_, _, _, _, _, _, _, _, _, _, ⟨_, _, _, _, _, _, _, _, _, _, ⟨g3, t3, c3, f3, p3, q3, a3, b3, e3, d3, _⟩, _⟩, _⟩, _⟩ := h'
  exact tab_of_row gPow gPowT Tryd.underlying179 Tryd.underlying159 (by kernel_rfl) (by kernel_rfl) ⟨g3, t3, c3, f3, p3, a3, b3, e3, d3⟩
section
variable {H : Type} {enc : TypeId × Value → H} {W : World} {v : Value} {base : Nat} {dw : DataW H} {ps : List MemPlace}
set_option maxRecDepth 100000 in
theorem doc_in (hv : Value.okWide Tryd.prog W .any base 42 v) (hd : DataW.Trod enc Tryd.prog W 0 (fun _ => true) true 42 v dw ps) (hb : Rows.uptoBulk dw ≤ 1048576) :
    ∃ (K : Nat) (cs : Array Value) (d : D), v = .agg cs ∧ rel Tryd.prog (sg0 W) W (.agg (cellsV Tryd.prog 12 42 d)) (.agg cs) ∧ Fits Tryd.prog (K + 1) 42 d ∧ wideDoc K (d.f 0).l ∧ bulkL (d.f 0).l ≤ 1048576 ∧ bulkD d ≤ 1048576 := by
  obtain ⟨k, cs, d, rfl, hr, hf, hbk⟩ := arg_in Tryd.underlying42 hv hd
  obtain ⟨A0, c0, e, s0a, s0b, s0c, s0⟩ := inK42 (hr.le (show k ≤ k + 1 by omega))
  have hf2 := hf.le (show k ≤ k + 1 by omega)
  obtain ⟨x0, e2, -⟩ := fits42 hf2
  have hb2 : bulkL (d.f 0).l + 2 = bulkD d := by rw [e2]; simp [bulkD, bulkL, D.f, D.l, gD]
  exact ⟨k, cs, d, rfl, cells0 Tryd.underlying42 (by kernel_rfl) hr, hf2, wideDoc_of s0, by omega, by omega⟩
set_option maxRecDepth 100000 in
theorem row7Directives (hv : Value.okWide Tryd.prog W .any base 42 v) (hd : DataW.Trod enc Tryd.prog W 0 (fun _ => true) true 42 v dw ps) (hb : Rows.uptoBulk dw ≤ 1048576) (he : EnvT W) :
    Calls Tryd.prog 12 #[v] W fun e W' => e = .returned (.bool true) ∧ Below W.heap.size W W' := by
  obtain ⟨K, cs, d, rfl, hr, hf, hw, hb1, -⟩ := doc_in hv hd hb
  exact calls_of_ac (law7Directives hf hw hb1) (relL1 hr) he
end
end Go.Proofs.YtohneabalakmeaaDoor
