/- DigestSums: for every slice of bytes the law returns true, and the argument reads as it did. -/
import Derived.Test.YtmacnffbainepaaDoorM
import Derived.Test.YtmacnffbainepaaDoorGive
import Derived.Test.YtmacnffbainepaaDoorCards
import Derived.Test.YtmacnffbainepaaDoorTie
import Derived.ProofKit
import Derived.OpenShut
import Derived.Deep.DeepHandedRow
import Derived.Lib.LaidTab
namespace Go.Proofs.YtmacnffbainepaaDoor
open Go.ChangeShapes Go.WideShapes Go.ChangeAt Go.RowKit
attribute [local irreducible] wpList Calls Code.wp
theorem own : ownKnob Tryd.prog.godebug = none := by kernel_rfl
theorem laidOut' : laidOutB Tryd.prog = true := by kernel_rfl
theorem gTab : Tryd.prog.globalNamed "supergraph/digest.k" = some 0 := by kernel_rfl
theorem gTabType : (Tryd.prog.globals[0]?).map (·.type) = some 38 := by kernel_rfl
theorem cells38 : Tryd.prog.cellsOf 38 = 64 := by kernel_rfl
theorem cells32 : Tryd.prog.cellsOf 32 = 1 := by kernel_rfl
theorem cells5' : Tryd.prog.cellsOf 5 = 1 := by kernel_rfl
/-- what the row's list gives: the table's cells -/
theorem kk_of_laid {W : World} (h : laidMetH Tryd.prog Rows.digestSumsRow.laid W) : Kk W := by
  have ht : Lib.TabIs Tryd.prog W "supergraph/digest.k" .u32 kk := Lib.tabIs_of_head (rest := []) gTab gTabType Tryd.underlying38 Tryd.underlying32 cells32 cells38 h
  intro i hi
  have hl : i < kk.length := hi
  have := ht.cell gTab i hl
  simpa [gI] using this
/-- a slice of bytes, as an argument: what the contracts ask -/
theorem bytes_arg {H : Type} {enc : TypeId × Value → H} {W : World} {a : Option Addr} {len cap : Nat} {d : DataW H} {ps : List MemPlace}
    (hd : DataW.Trod enc Tryd.prog W 0 (fun _ => true) true 22 (.slice a len cap) d ps) (hlt : ∀ p ∈ ps, p.block < W.heap.size) :
    ∃ L : List Int, len = L.length ∧ L.length ≤ cap ∧ L.length ≤ 9223372036854775807 ∧ Bytes L ∧ Rd W (fun k => k < W.heap.size) 1 a L.length (ints .u8 L) := by
  obtain ⟨fuel, hf⟩ := hd
  rcases open_ints Tryd.underlying22 Tryd.underlying5 cells5' hf with ⟨h1, h2⟩ | ⟨b, len', cap', zs, h1, h2, h3, h4, h5, h6, h7, h8⟩
  · injection h1 with h1 _
    injection h1 with h1 h1b h1c
    subst h1 h1b h1c
    exact ⟨[], rfl, by simp, by simp, by simp [Bytes], by simp [Rd, ints]⟩
  · injection h1 with h1 _
    injection h1 with h1 h1b h1c
    subst h1 h1b h1c
    simp only [if_true] at h5
    have hm : cap ≤ 9223372036854775807 := by simpa [maxLen] using h4
    have hl : (zs.take len).length = len := by simp; omega
    refine ⟨zs.take len, hl.symm, by omega, by omega, ?_, by simp [ints], ?_⟩
    · intro x hx
      have := h8 x (List.mem_of_mem_take hx)
      simp only [Lit.wf, Bool.and_eq_true, decide_eq_true_eq] at this
      exact ⟨this.1, Int.lt_of_le_of_lt this.2 (by decide)⟩
    · intro hn
      obtain ⟨bb, off, rfl, hc⟩ := ints_at h7 (by omega)
      refine ⟨bb, off, rfl, block_lt_of_cell (hc 0 (by omega)), ?_⟩
      intro j u hu
      obtain ⟨hj, hu'⟩ := List.getElem?_eq_some_iff.1 hu
      have hj' : j < len := by simp [ints] at hj; omega
      rw [hc j (by omega)]
      rw [← hu']
      simp [ints, List.getD, List.getElem?_eq_getElem (show j < zs.length by omega)]
/-- a world for the witness: the table (block 0) holding what its initialiser lays -/
noncomputable def laidWorld (os : Os) : World :=
  { World.holding Tryd.prog os ⟨#[], #[], []⟩ with heap := (World.holding Tryd.prog os ⟨#[], #[], []⟩).heap.modify 0 fun
      | .cells _ t frozen => .cells (kk.map fun z => Value.int .u32 z).toArray t frozen
      | o => o }
theorem types_ok (ts : List TypeId) (h : (ts.all fun t => Tryd.prog.readableRec t && decide (t < Tryd.prog.types.size)) = true) : ∀ t ∈ ts, Tryd.prog.readableRec t = true ∧ t < Tryd.prog.types.size := by
  intro t ht
  have := List.all_eq_true.1 h t ht
  simpa using this
end Go.Proofs.YtmacnffbainepaaDoor
