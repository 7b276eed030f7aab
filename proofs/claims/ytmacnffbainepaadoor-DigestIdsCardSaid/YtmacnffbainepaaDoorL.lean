/- Identifiers of texts; the example; equality of bytes. -/
import Derived.Test.YtmacnffbainepaaDoorK
namespace Go.Proofs.YtmacnffbainepaaDoor
open Go.RowKit
attribute [local irreducible] ws rnds blockI wpList Calls Code.wp sumTo outTo sumI hexI msgI
/-- the table of the constants, as the row lists it -/
def Kk (w : World) : Prop := ∀ i, i < 64 → w.cell? ⟨0, i, none⟩ = some (.int .u32 (gI kk i))
theorem Kk.lt {w : World} (h : Kk w) : 0 < w.heap.size := block_lt_of_cell (h 0 (by omega))
theorem Kk.below {w w' : World} (h : Kk w) {B : Nat} (hb : Below B w w') (hB : 0 < B) : Kk w' := fun i hi => (hb.cell (by exact hB)).trans (h i hi)
/-- the numbers of a string's bytes -/
def numsOf (s : ByteArray) : List Int := s.data.toList.map fun b => (b.toNat : Int)
theorem numsOf_length (s : ByteArray) : (numsOf s).length = s.size := by simp only [numsOf, List.length_map, Array.length_toList]; rfl
theorem numsOf_bytes (s : ByteArray) : Bytes (numsOf s) := by
  intro x hx
  obtain ⟨b, _, rfl⟩ := List.mem_map.1 hx
  have := b.toNat_lt
  omega
theorem strOf_length (L : List Int) : (strOfNums L).size = L.length := by show (List.map _ _).toArray.size = _; simp
theorem own_read {w : World} {base g n c : Nat} {e : TypeId} {size : Nat} {xs : List Value} (h : w.ownsRow base e size (.slice (some ⟨g, 0, none⟩) n c) n xs) : Rd w (fun k => k < w.heap.size) size (some ⟨g, 0, none⟩) n xs := by
  refine ⟨h.1, fun _ => ⟨g, 0, rfl, (own_cap h).2.2, fun j u hu => ?_⟩⟩
  have hj : j < n * size := by rw [← h.1]; exact (List.getElem?_eq_some_iff.1 hu).1
  rw [Nat.zero_add, h.cellAt j hj]; exact hu
theorem same9 (L : List Int) (A B : Option Addr) (n m c d : Nat) (I J : Nat → Prop) (w : World) (hn : n = L.length) (hm : m = L.length) (ha : Rd w I 1 A n (ints .u8 L)) (hb : Rd w J 1 B m (ints .u8 L)) :
    Calls Tryd.prog 9 #[.slice A n c, .slice B m d] w fun e w' => e = .returned (.bool true) ∧ w = w' := by
  have h1 := conv_str (P := Tryd.prog) 22 5 9 Tryd.underlying22 Tryd.underlying5 Tryd.underlying9 A c L n hn ha
  have h2 := conv_str (P := Tryd.prog) 22 5 9 Tryd.underlying22 Tryd.underlying5 Tryd.underlying9 B d L m hm hb
  clear hn hm
  go_enter Tryd.func9, Tryd.ntmps9
  go_wp2
  go_ret
  exact ⟨rfl, rfl⟩
/-- what '[]byte(s)' lays reads as the bytes of s -/
theorem bytes_read (w : World) (s : ByteArray) (fr : Nat × Nat) (cap : Nat) (hc : s.size ≤ cap) : Rd (w.alloc (.cells (bytesRow s cap) 5 fr)).drew (fun k => k < (w.alloc (.cells (bytesRow s cap) 5 fr)).drew.heap.size) 1 (some ⟨w.heap.size, 0, none⟩) s.size (ints .u8 (numsOf s)) := by
  refine ⟨by simp [ints, numsOf_length], fun _ => ⟨w.heap.size, 0, rfl, by show w.heap.size < (w.alloc _).heap.size; simp, fun j u hu => ?_⟩⟩
  have hj : j < s.size := by
    have := (List.getElem?_eq_some_iff.1 hu).1
    simpa [ints, numsOf_length] using this
  rw [Nat.zero_add, cell_of_row _ w.heap.size j _ 5 fr (show (w.alloc (.cells (bytesRow s cap) 5 fr)).drew.heap[w.heap.size]? = _ from heap_at (w := w) rfl)]
  rw [← hu]
  simp [bytesRow, ints, numsOf, Array.getElem?_append]
  rw [if_pos hj]
  cases s.data[j]? <;> rfl
set_option maxRecDepth 100000 in
set_option maxHeartbeats 1000000 in
theorem id13 (s : ByteArray) (w : World) (hs : s.size ≤ 5000) (hk : Kk w) : Calls Tryd.prog 13 #[.string s] w (Str (hexI (sumI (numsOf s))) w) := by
  have HK := Lib.hid hk; clear hk
  have hb := run_bytes_of_string (P := Tryd.prog) w 9 22 5 s Tryd.underlying9 Tryd.underlying22 Tryd.underlying5
  go_enter Tryd.func13, Tryd.ntmps13
  go_wp2_with fail
  have hcap : s.size ≤ grownCap w s.size 0 5 := grownCap_ge w s.size 0 5
  have hrd := bytes_read w s ((bytesRow s (grownCap w s.size 0 5)).size, (bytesRow s (grownCap w s.size 0 5)).size + 1) _ hcap
  generalize hW : (w.alloc (.cells (bytesRow s (grownCap w s.size 0 5)) 5 ((bytesRow s (grownCap w s.size 0 5)).size, (bytesRow s (grownCap w s.size 0 5)).size + 1))).drew = W1 at hrd ⊢
  clear hb
  have hbW : Below w.heap.size w W1 := by rw [← hW]; exact ((Below.refl _ _).alloc (Nat.le_refl _) _).drew
  have hkW : Kk W1 := HK.out.below hbW HK.out.lt
  have h8 := sum8 (numsOf s) (some ⟨w.heap.size, 0, none⟩) (grownCap w s.size 0 5) (fun k => k < W1.heap.size) W1 (fun k h => h) (by rw [numsOf_length]; exact hrd) (by rw [numsOf_length]; exact hcap) (by rw [numsOf_length]; omega) (numsOf_bytes s) hkW
  rw [numsOf_length] at h8
  have Hbw := Lib.hid hbW
  clear hW hrd hcap
  refine h8.mono ?_
  intro e w2 hp
  obtain ⟨g, c, rfl, hown, hb2⟩ := hp
  have h11 := hex11 (sumI (numsOf s)) (some ⟨g, 0, none⟩) c (fun k => k < w2.heap.size) w2 (fun k h => h) (own_read hown) (by rw [sumI_length]; omega) (by unfold sumI; exact outTo_bytes _ _)
  have H11 := Lib.hid h11; have hbw2 := hbW.trans (hb2.mono hbW.size)
  clear h11 h8 hown hb2
  go_wp2_with fail
  refine H11.out.mono ?_
  intro e w3 hp
  obtain ⟨rfl, hb3⟩ := hp
  have hf : Str (hexI (sumI (numsOf s))) w (.returned (.string (strOfNums (hexI (sumI (numsOf s)))))) w3 := ⟨rfl, hbw2.trans (hb3.mono hbw2.size)⟩
  clear H11 hb3
  go_wp2
  go_ret
  exact hf
set_option maxRecDepth 100000 in
set_option maxHeartbeats 1000000 in
theorem id14 (s : ByteArray) (w : World) (hs : s.size ≤ 5000) : Calls Tryd.prog 14 #[.string s] w (Str (hexI (sumI (numsOf s))) w) := by
  have hb := run_bytes_of_string (P := Tryd.prog) w 9 22 5 s Tryd.underlying9 Tryd.underlying22 Tryd.underlying5
  go_enter Tryd.func14, Tryd.ntmps14
  go_wp2_with fail
  have hcap : s.size ≤ grownCap w s.size 0 5 := grownCap_ge w s.size 0 5
  have hrd := bytes_read w s ((bytesRow s (grownCap w s.size 0 5)).size, (bytesRow s (grownCap w s.size 0 5)).size + 1) _ hcap
  generalize hW : (w.alloc (.cells (bytesRow s (grownCap w s.size 0 5)) 5 ((bytesRow s (grownCap w s.size 0 5)).size, (bytesRow s (grownCap w s.size 0 5)).size + 1))).drew = W1 at hrd ⊢
  clear hb
  have hbW : Below w.heap.size w W1 := by rw [← hW]; exact ((Below.refl _ _).alloc (Nat.le_refl _) _).drew
  have h8 := sum10 (numsOf s) (some ⟨w.heap.size, 0, none⟩) (grownCap w s.size 0 5) (fun k => k < W1.heap.size) W1 (fun k h => h) (by rw [numsOf_length]; exact hrd) (by rw [numsOf_length]; omega) (numsOf_bytes s)
  rw [numsOf_length] at h8
  clear hW hrd hcap
  refine h8.mono ?_
  intro e w2 hp
  obtain ⟨g, c, rfl, hown, hb2⟩ := hp
  have h11 := hex12 (sumI (numsOf s)) (some ⟨g, 0, none⟩) c (fun k => k < w2.heap.size) w2 (fun k h => h) (own_read hown) (by rw [sumI_length]; omega) (by unfold sumI; exact outTo_bytes _ _)
  have H11 := Lib.hid h11; have hbw2 := hbW.trans (hb2.mono hbW.size)
  clear h11 h8 hown hb2
  go_wp2_with fail
  refine H11.out.mono ?_
  intro e w3 hp
  obtain ⟨rfl, hb3⟩ := hp
  have hf : Str (hexI (sumI (numsOf s))) w (.returned (.string (strOfNums (hexI (sumI (numsOf s)))))) w3 := ⟨rfl, hbw2.trans (hb3.mono hbw2.size)⟩
  clear H11 hb3
  go_wp2
  go_ret
  exact hf
/-- true comes back, and nothing that was there has turned -/
def Yes (w : World) (e : Ending) (w' : World) : Prop := e = .returned (.bool true) ∧ Below w.heap.size w w'
theorem abc_str : strOfNums (hexI (sumI (numsOf { data := #[97, 98, 99] }))) = { data := #[98, 97, 55, 56, 49, 54, 98, 102, 56, 102, 48, 49, 99, 102, 101, 97, 52, 49, 52, 49, 52, 48, 100, 101, 53, 100, 97, 101, 50, 50, 50, 51, 98, 48, 48, 51, 54, 49, 97, 51, 57, 54, 49, 55, 55, 97, 57, 99, 98, 52, 49, 48, 102, 102, 54, 49, 102, 50, 48, 48, 49, 53, 97, 100] } := by
  have h : numsOf { data := #[97, 98, 99] } = [97, 98, 99] := rfl
  rw [h, abc_hex]
  rfl
set_option maxRecDepth 100000 in
theorem example7 (w : World) (hk : Kk w) : Calls Tryd.prog 7 #[] w (Yes w) := by
  have h := id13 { data := #[97, 98, 99] } w (by decide) hk
  have H := Lib.hid h; clear h hk
  go_enter Tryd.func7, Tryd.ntmps7
  go_wp2_with fail
  refine H.out.mono ?_
  intro e w2 hp
  obtain ⟨rfl, hb⟩ := hp
  rw [abc_str]
  clear H
  go_wp2
  go_ret
  exact ⟨rfl, hb⟩
end Go.Proofs.YtmacnffbainepaaDoor
