/- The fetches of each depth, in the program's text: the walk. -/
import Derived.Test.YtkldeelhlbhlmaaI
namespace Go.Proofs.Ytkldeelhlbhlmaa
open Go.RowKit
attribute [local irreducible] wpList Calls Code.wp wavesI
theorem Bl.reads {w : World} {base b : Nat} {ws : List (List Int)} {A : Option Addr} {n c : Nat} {xs : List Value} (h : Bl w base b ws (.slice A n c) xs) : n = ws.length ∧ LL w (fun k => k < w.heap.size) A ws := by
  obtain ⟨h1, h2, h3, h4, h5, h6⟩ := h
  obtain ⟨A', c', e⟩ := own_form h3
  simp only [Value.slice.injEq] at e
  obtain ⟨rfl, rfl, rfl⟩ := e
  refine ⟨rfl, xs, ⟨h3.1, fun h0 => ?_⟩, by have := h3.1; omega, fun i hi => ?_⟩
  · rcases h3.2 with ⟨_, h1⟩ | ⟨g, cap, cur, hv, hg, r⟩
    · omega
    · simp only [Value.slice.injEq] at hv
      obtain ⟨rfl, -, rfl⟩ := hv
      refine ⟨g, 0, rfl, (h3.lt g rfl).2, fun j u hu => ?_⟩
      have hj : j < ws.length := by have := (List.getElem?_eq_some_iff.1 hu).1; have := h3.1; omega
      rw [Nat.zero_add, h3.cellAt j (by omega)]
      exact hu
  · obtain ⟨u, hu, ho, _, _⟩ := h5 i hi
    obtain ⟨B, c2, rfl⟩ := own_form ho
    exact ⟨B, c2, hu, own_is ho rfl rfl⟩
set_option maxRecDepth 100000 in
set_option maxHeartbeats 2000000 in
theorem waves10 (kd : Int) (B : Option Addr) (bn bc : Nat) (A : Option Addr) (c : Nat) (fs : List (Int × List Int)) (w : World) (h : Pl w (fun k => k < w.heap.size) A fs) (hn : fs.length ≤ 200) :
    Calls Try.prog 10 #[plan kd B bn bc A fs.length c] w (Wv (wavesI fs) w) := by
  have H := Lib.hid h; clear h
  have HE := Lib.hid (waves_eq fs)
  have HB0 := Lib.hid (wavesS_length fs fs.length); have HS0 := Lib.hid (wavesS_small fs fs.length)
  have hn0 : ∃ n, n = fs.length := ⟨_, rfl⟩
  obtain ⟨n, hn1⟩ := hn0
  unfold plan
  rw [← hn1] at hn HE HB0 HS0 ⊢
  have Hn1 := Lib.hid hn1; clear hn1
  go_enter Try.func10, Try.ntmps10
  go_wp2
  go_loopg [14] n (fun j i wr => ∃ m : Nat, m + j = n ∧ i = .int .i64 m ∧ Below (w.heap.size + 1) (w.alloc (.cells #[.int .i64 kd, .slice B bn bc, .slice A n c] 25)) wr ∧ Blt wr (w.heap.size + 1) (w.heap.size + 1) (wavesS fs n m))
  case atStart =>
    refine ⟨0, by omega, rfl, ?_, ?_⟩
    · exact (Below.refl _ _).alloc (by simp) _
    · rw [wavesS]
      exact ⟨.slice none 0 0, [], Nat.le_refl _, heap_at (by simp), World.ownsRow_nil _ _ _ _, by simp [Value.ownBlock], fun i hi => by simp at hi, fun i j u u' g _ hu => by simp at hu⟩
  case round =>
    obtain ⟨x, hmj, rfl, hb, hbl⟩ := hrel
    have Hmj := Lib.hid hmj; have hmn : x ≤ n := by omega
    clear hmj
    have hbx : wr.cell? ⟨w.heap.size, 2, none⟩ = some (.slice A n c) := by
      rw [hb.cell (p := ⟨w.heap.size, 2, none⟩) (by simp)]
      exact cell_of_row _ _ _ _ _ _ (heap_at rfl)
    by_cases hlt : x < n
    · obtain ⟨b, off, rfl, hI, hc⟩ := H.out (by rw [← Hn1.out]; omega)
      obtain ⟨g, P, pn, pc, s, K, kn, kc, y, Q, qn, qc, B2, c2, h0, h1, h2, h3, h4, h5, h6, h7, hi, hl, hr1, hr2⟩ := hc x (by rw [← Hn1.out]; exact hlt)
      have hcell : ∀ o, wr.cell? ⟨b, o, none⟩ = w.cell? ⟨b, o, none⟩ := fun o => (hb.cell (p := ⟨b, o, none⟩) (by show b < w.heap.size + 1; omega)).trans (World.cell?_alloc_lt _ _ _ hI)
      have e0 := (hcell _).trans h0
      have e1 := (hcell _).trans h1
      have e2 := (hcell _).trans h2
      have e3 := (hcell _).trans h3
      have e4 := (hcell _).trans h4
      have e5 := (hcell _).trans h5
      have e6 := (hcell _).trans h6
      have e7 := (hcell _).trans h7
      clear hc h0 h1 h2 h3 h4 h5 h6 h7 hi hr1 hr2 hcell
      have Hb := Lib.hid hb; have Hbl := Lib.hid hbl
      clear hb hbl
      have hbs := block_lt_of_cell hbx
      by_cases hd1 : 1 ≤ (gF fs x).1
      · by_cases hd2 : (gF fs x).1 ≤ (n : Int)
        · have hstep : wavesS fs n (x + 1) = addTo (wavesS fs n x) x (gF fs x).1.toNat := by rw [wavesS, if_pos ⟨hd1, hd2⟩]
          have hdn : ∃ d : Nat, (gF fs x).1 = (d : Int) := ⟨(gF fs x).1.toNat, by omega⟩
          obtain ⟨d, hdn⟩ := hdn
          rw [hdn] at hstep e1 hd1 hd2
          rw [Int.toNat_natCast] at hstep
          have Hstep := Lib.hid hstep
          clear hstep hdn
          have hlen : (wavesS fs n x).length ≤ 200 := by
            have h1 := HB0.out x
            have h2 := mostT_range fs n x
            omega
          have hadd := add23 (w.heap.size + 1) (w.heap.size + 1) (wavesS fs n x) (x : Int) d (wr.alloc (.cells #[.int .i64 g, .int .i64 (d : Int), .slice P pn pc, .string s, .slice K kn kc, .int .i64 y, .slice Q qn qc, .slice B2 (gF fs x).2.length c2] 45)) (Hbl.out.turn fun k hk => Below.heap_alloc _ _ k hk) (by omega) (by omega) hlen (fun i => HS0.out x i (by omega))
          have Hadd := Lib.hid hadd; clear hadd
          go_wp2_with fail
          refine Hadd.out.mono ?_
          rintro e w2 ⟨rfl, hbl2, hb2⟩
          have hb3 := Hb.out.trans (((Below.refl _ _).alloc hbs (.cells #[.int .i64 g, .int .i64 (d : Int), .slice P pn pc, .string s, .slice K kn kc, .int .i64 y, .slice Q qn qc, .slice B2 (gF fs x).2.length c2] 45)).trans hb2)
          have Hb3 := Lib.hid hb3
          clear hb2 hb3
          go_wp2
          go_roundg (gk - 1)
          case measure => have := Hmj.out; omega
          case rel => exact ⟨x + 1, by have := Hmj.out; omega, by go_num, Hb3.out, by rw [Hstep.out]; exact hbl2⟩
        · have hstep : wavesS fs n (x + 1) = wavesS fs n x := by rw [wavesS, if_neg (by omega)]
          have Hstep := Lib.hid hstep; clear hstep
          go_wp2
          go_roundg (gk - 1)
          case measure => have := Hmj.out; omega
          case rel => exact ⟨x + 1, by have := Hmj.out; omega, by go_num, Hb.out.alloc hbs _, by rw [Hstep.out]; exact Hbl.out.turn fun k hk => Below.heap_alloc _ _ k hk⟩
      · have hstep : wavesS fs n (x + 1) = wavesS fs n x := by rw [wavesS, if_neg (by omega)]
        have Hstep := Lib.hid hstep; clear hstep
        go_wp2
        go_roundg (gk - 1)
        case measure => have := Hmj.out; omega
        case rel => exact ⟨x + 1, by have := Hmj.out; omega, by go_num, Hb.out.alloc hbs _, by rw [Hstep.out]; exact Hbl.out.turn fun k hk => Below.heap_alloc _ _ k hk⟩
    · obtain rfl : x = n := by omega
      rw [HE.out] at hbl
      obtain ⟨v, xs, hbl⟩ := hbl
      obtain ⟨A', c', e⟩ := own_form hbl.2.2.1
      subst e
      have hcb : wr.cell? ⟨w.heap.size + 1, 0, none⟩ = some (.slice A' (wavesI fs).length c') := cell_heap hbl.2.1 rfl
      have Hr := Lib.hid hbl.reads
      clear hbl
      go_wp2
      go_ret
      exact ⟨A', c', rfl, Hr.out.2, ((Below.refl _ _).alloc (Nat.le_refl _) _).trans (hb.mono (by omega))⟩
end Go.Proofs.Ytkldeelhlbhlmaa
