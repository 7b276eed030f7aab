/- The plan of the examples. -/
import Derived.Test.YtkldeelhlbhlmaaM
namespace Go.Proofs.Ytkldeelhlbhlmaa
open Go.RowKit
attribute [local irreducible] wpList Calls Code.wp
def fs3 : List (Int × List Int) := [(1, []), (2, [0]), (1, [])]
/-- the plan of the examples comes back -/
def Th (w : World) (e : Ending) (w' : World) : Prop := ∃ A c, e = .returned (plan 0 none 0 0 A fs3.length c) ∧ Pl w' (fun k => k < w'.heap.size) A fs3 ∧ Below w.heap.size w w'
set_option maxRecDepth 100000 in
set_option maxHeartbeats 1000000 in
theorem three22 (w : World) : Calls Try.prog 22 #[] w (Th w) := by
  go_enter Try.func22, Try.ntmps22
  go_wp2
  have hbl := Lib.hid ((((Below.refl w.heap.size w).alloc (Nat.le_refl _) (.cells #[.int .i64 0, .slice none 0 0, .slice (some ⟨w.heap.size + 1 + 1, 0, none⟩) 3 3] 25)).alloc (by simp) (.cells #[.int .i64 0] 3)).alloc (by simp; omega) (.cells #[.int .i64 0, .int .i64 1, .slice none 0 0, .string { data := #[] }, .slice none 0 0, .int .i64 0, .slice none 0 0, .slice none 0 0, .int .i64 0, .int .i64 2, .slice none 0 0, .string { data := #[] }, .slice none 0 0, .int .i64 0, .slice none 0 0, .slice (some ⟨w.heap.size + 1, 0, none⟩) 1 1, .int .i64 0, .int .i64 1, .slice none 0 0, .string { data := #[] }, .slice none 0 0, .int .i64 0, .slice none 0 0, .slice none 0 0] 45))
  have h1 := Lib.hid (heap_under (o := (.cells #[.int .i64 0, .int .i64 1, .slice none 0 0, .string { data := #[] }, .slice none 0 0, .int .i64 0, .slice none 0 0, .slice none 0 0, .int .i64 0, .int .i64 2, .slice none 0 0, .string { data := #[] }, .slice none 0 0, .int .i64 0, .slice none 0 0, .slice (some ⟨w.heap.size + 1, 0, none⟩) 1 1, .int .i64 0, .int .i64 1, .slice none 0 0, .string { data := #[] }, .slice none 0 0, .int .i64 0, .slice none 0 0, .slice none 0 0] 45)) (heap_at (w := w.alloc (.cells #[.int .i64 0, .slice none 0 0, .slice (some ⟨w.heap.size + 1 + 1, 0, none⟩) 3 3] 25)) (o := .cells #[.int .i64 0] 3) (b := w.heap.size + 1) (by simp)))
  have h2 := Lib.hid (heap_at (w := (w.alloc (.cells #[.int .i64 0, .slice none 0 0, .slice (some ⟨w.heap.size + 1 + 1, 0, none⟩) 3 3] 25)).alloc (.cells #[.int .i64 0] 3)) (o := (.cells #[.int .i64 0, .int .i64 1, .slice none 0 0, .string { data := #[] }, .slice none 0 0, .int .i64 0, .slice none 0 0, .slice none 0 0, .int .i64 0, .int .i64 2, .slice none 0 0, .string { data := #[] }, .slice none 0 0, .int .i64 0, .slice none 0 0, .slice (some ⟨w.heap.size + 1, 0, none⟩) 1 1, .int .i64 0, .int .i64 1, .slice none 0 0, .string { data := #[] }, .slice none 0 0, .int .i64 0, .slice none 0 0, .slice none 0 0] 45)) (b := w.heap.size + 1 + 1) (by simp))
  refine bodyPost_ret (results_cell_row rfl _ _ w.heap.size 25 _ (0, 0) _ rfl (heap_under (heap_under (heap_at rfl))) Try.underlying25 rfl (by kernel_rfl)) rfl ?_
  refine ⟨some ⟨w.heap.size + 1 + 1, 0, none⟩, 3, rfl, fun _ => ⟨w.heap.size + 1 + 1, 0, rfl, heap_lt h2.out, fun i hi => ?_⟩, hbl.out⟩
  rcases i with _ | _ | _ | i
  · exact ⟨0, none, 0, 0, { data := #[] }, none, 0, 0, 0, none, 0, 0, none, 0, cell_heap h2.out rfl, cell_heap h2.out rfl, cell_heap h2.out rfl, cell_heap h2.out rfl, cell_heap h2.out rfl, cell_heap h2.out rfl, cell_heap h2.out rfl, cell_heap h2.out rfl, Rd.nil _ _ _ _, by decide, by decide, by decide⟩
  · refine ⟨0, none, 0, 0, { data := #[] }, none, 0, 0, 0, none, 0, 0, some ⟨w.heap.size + 1, 0, none⟩, 1, cell_heap h2.out rfl, cell_heap h2.out rfl, cell_heap h2.out rfl, cell_heap h2.out rfl, cell_heap h2.out rfl, cell_heap h2.out rfl, cell_heap h2.out rfl, cell_heap h2.out rfl, ⟨rfl, fun _ => ⟨w.heap.size + 1, 0, rfl, heap_lt h1.out, fun j u hu => ?_⟩⟩, by decide, by decide, by decide⟩
    rcases j with _ | j
    · have : u = .int .i64 0 := by simpa [ints, gF, fs3] using hu.symm
      subst this
      exact cell_heap h1.out rfl
    · simp [ints, gF, fs3] at hu
  · exact ⟨0, none, 0, 0, { data := #[] }, none, 0, 0, 0, none, 0, 0, none, 0, cell_heap h2.out rfl, cell_heap h2.out rfl, cell_heap h2.out rfl, cell_heap h2.out rfl, cell_heap h2.out rfl, cell_heap h2.out rfl, cell_heap h2.out rfl, cell_heap h2.out rfl, Rd.nil _ _ _ _, by decide, by decide, by decide⟩
  · simp [fs3] at hi; omega
end Go.Proofs.Ytkldeelhlbhlmaa
