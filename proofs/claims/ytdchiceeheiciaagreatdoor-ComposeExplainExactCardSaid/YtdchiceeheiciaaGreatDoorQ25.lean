/- Parts of a proof, merged by a program (shake.py). -/
import Derived.Test.YtdchiceeheiciaaGreatDoorCards
import Derived.Test.YtdchiceeheiciaaGreatDoorTie
import Derived.ProofKit
import Derived.OpenShut
import Derived.Deep.DeepHandedRow
import Derived.Test.YtdchiceeheiciaaGreatDoorQ24
set_option linter.unusedVariables false
set_option linter.unusedSimpArgs false
namespace Go.Proofs.YtdchiceeheiciaaGreatDoor
open Go.ChangeShapes Go.WideShapes Go.ChangeAt Go.RowKit
attribute [local irreducible] wpList Calls Code.wp
theorem own : ownKnob Tryz.prog.godebug = none := by kernel_rfl
theorem laidOut' : laidOutB Tryz.prog = true := by kernel_rfl
theorem gPow : Tryz.prog.globalNamed "internal/strconv.uint64pow10" = some 0 := by kernel_rfl
theorem tab_of_row {P : Program} {W : World} {g : Nat} {n : String} {t e : TypeId} {m : Nat} {k : IntKind} {zs : List Int} (hg : P.globalNamed n = some g) (hty : (P.globals[g]?).map (·.type) = some t) (ht : P.underlying t = some (.array m e)) (he : P.underlying e = some (.int k)) (hce : P.cellsOf e = 1) (hct : P.cellsOf t = m)
    (h : ∃ g t cs fuel p, P.globalNamed n = some g ∧ (P.globals[g]?).map (·.type) = some t ∧ W.var? P n = some cs ∧ DataW.trod (fun _ => ()) P W 0 (fun _ => true) false fuel t cs.toList = some (Lib.tabData k zs, p)) : Lib.TabIs P W n k zs := by
  obtain ⟨g', t', cs, fuel, p, hg', ht', hvar, hd⟩ := h
  obtain rfl := Option.some.inj (hg.symm.trans hg')
  obtain rfl := Option.some.inj (hty.symm.trans ht')
  unfold Lib.TabIs
  rw [hvar, ← Lib.cells_of_tab ht he hce hct hd]
theorem gPowT : (Tryz.prog.globals[0]?).map (·.type) = some 238 := by kernel_rfl
theorem weight_head {H : Type} {P : Program} {t : TypeId} {ts : List TypeId} {ds : List (DataW H)} {l : List UInt8} : l.length ∈ DataW.weightsEach P (t :: ts) (.lit (.string l) :: ds) := by
  simp [DataW.weightsEach, DataW.weights]
theorem weight_tail {H : Type} {P : Program} {t : TypeId} {ts : List TypeId} {d : DataW H} {ds : List (DataW H)} {x : Nat} (h : x ∈ DataW.weightsEach P ts ds) : x ∈ DataW.weightsEach P (t :: ts) (d :: ds) := by
  simp [DataW.weightsEach, h]
theorem reach_size {H : Type} {P : Program} {ts : List TypeId} {ds : List (DataW H)} {s : ByteArray} (h : (DataW.weightsEach P ts ds).all (· ≤ reachBytes) = true) (hm : s.data.toList.length ∈ DataW.weightsEach P ts ds) : s.size ≤ 140737488351232 := by
  have h1 : s.data.toList.length ≤ reachBytes := of_decide_eq_true (List.all_eq_true.1 h _ hm)
  have h2 : s.data.toList.length = s.size := by simp
  unfold reachBytes at h1
  omega
/-- an int, as an argument -/
theorem int_arg {H : Type} {enc : TypeId × Value → H} {P : Program} {W : World} {r : Reach} {b0 base : Nat} {sp : Nat → Bool} {held : Bool} {t : TypeId} {v : Value} {d : DataW H} {ps : List MemPlace} (ht : P.underlying t = some (.int .i64)) (hval : Value.okWide P W r b0 t v) (hd : DataW.Trod enc P W base sp held t v d ps) :
    ∃ n : Int, v = .int .i64 n ∧ -9223372036854775808 ≤ n ∧ n ≤ 9223372036854775807 := by
  obtain ⟨n, rfl⟩ := okWide_int ht hval
  obtain ⟨fuel, hf⟩ := hd
  obtain ⟨z, hc, _, hw⟩ := DataW.trod_int ht hf
  simp [Value.cells] at hc
  subst hc
  simp only [Lit.wf, Bool.and_eq_true, decide_eq_true_eq] at hw
  exact ⟨n, rfl, hw.1, Int.le_of_lt_add_one (Int.lt_of_le_of_lt hw.2 (by decide))⟩
theorem types_ok (ts : List TypeId) (h : (ts.all fun t => Tryz.prog.readableRec t && decide (t < Tryz.prog.types.size)) = true) : ∀ t ∈ ts, Tryz.prog.readableRec t = true ∧ t < Tryz.prog.types.size := by
  intro t ht
  have := List.all_eq_true.1 h t ht
  simpa using this
end Go.Proofs.YtdchiceeheiciaaGreatDoor
