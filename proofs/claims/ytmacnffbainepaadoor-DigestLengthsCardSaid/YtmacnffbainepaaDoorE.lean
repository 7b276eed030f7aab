/- The constants of the rounds, in the reference's text. -/
import Derived.Test.YtmacnffbainepaaDoorC
namespace Go.Proofs.YtmacnffbainepaaDoor
open Go.RowKit
attribute [local irreducible] ws rnds blockI
set_option maxRecDepth 100000 in
set_option maxHeartbeats 4000000 in
theorem const22 (k : Nat) (w : World) (hk : k < 64) : Calls Tryd.prog 22 #[.int .i64 k] w fun e w' => e = .returned (.int .u32 (gI kk k)) ∧ Below w.heap.size w w' := by
  have hkk : ∀ i, i < 64 → (kk.map (Value.int .u32)).toArray[i]? = some (.int .u32 (gI kk i)) := fun i hi => by
    have : i < kk.length := hi
    simp [gI, List.getElem?_eq_getElem this]
  have hz : (kk.map (Value.int .u32)).toArray.size = 64 := by simp [kk]
  have hall := ints_one .u32 kk
  have HK := Lib.hid hkk; have HZ := Lib.hid hz; have HA := Lib.hid hall
  have hE : ∃ out, (kk.map (Value.int .u32)).toArray = out := ⟨_, rfl⟩
  obtain ⟨out, hout⟩ := hE
  rw [hout] at HK HZ HA
  have hst := fun (cs : Array Value) (h : cs.size = 64) => store_whole (P := Tryd.prog) (w := w) w.heap.size 38 cs out rfl (h.trans HZ.out.symm) HA.out
  have hl := fun (cs : Array Value) => setRow_heap (w.alloc (.cells cs 38)) w.heap.size cs out 38 (0, 0) (heap_at rfl)
  have hc : ∀ cs : Array Value, ((w.alloc (.cells cs 38)).setRow w.heap.size out).cell? ⟨w.heap.size, k, none⟩ = some (.int .u32 (gI kk k)) := fun cs => by
    rw [cell_of_row _ _ k out 38 (0, 0) (hl cs)]; exact HK.out k hk
  clear hl
  have Hout : ∃ _u : Unit, (kk.map (Value.int .u32)).toArray = out := ⟨(), hout⟩
  clear hout
  go_enter Tryd.func22, Tryd.ntmps22
  go_wp2_with (first
    | (with_reducible refine build_to (o := ⟨some 4, _, _, _, _, _⟩) out rfl 38 _ rfl ?_ ?_; (obtain ⟨_, h⟩ := Hout; rw [← h]; kernel_rfl)))
  go_ret
  refine ⟨rfl, ?_⟩
  exact ((Below.refl _ _).alloc (Nat.le_refl _) _).trans ⟨rfl, rfl, rfl, by simp, fun i hi => setRow_other _ _ _ _ (by omega)⟩
end Go.Proofs.YtmacnffbainepaaDoor
