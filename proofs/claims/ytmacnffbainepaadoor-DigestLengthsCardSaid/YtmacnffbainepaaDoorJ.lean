/- Bytes in hexadecimal, in the reference's text. -/
import Derived.Test.YtmacnffbainepaaDoorI
namespace Go.Proofs.YtmacnffbainepaaDoor
open Go.RowKit
attribute [local irreducible] ws rnds blockI wpList Calls Code.wp sumTo outTo
set_option maxRecDepth 100000 in
set_option maxHeartbeats 1000000 in
theorem hex12 (L : List Int) (A : Option Addr) (cap : Nat) (I : Nat → Prop) (w : World) (hI : ∀ k, I k → k < w.heap.size) (hr : Rd w I 1 A L.length (ints .u8 L)) (hn : L.length ≤ 1000000) (hb : Bytes L) :
    Calls Tryd.prog 12 #[.slice A L.length cap] w (Str (hexI L) w) := by
  have HB := Lib.hid (gI_bytes hb); clear hb
  have HR := Lib.hid hr; clear hr
  have HII := Lib.hid hI; clear hI
  have hn0 : ∃ n, n = L.length := ⟨_, rfl⟩
  obtain ⟨n, hn1⟩ := hn0
  rw [← hn1] at HR hn ⊢
  have Hn1 := Lib.hid hn1; clear hn1
  go_enter Tryd.func12, Tryd.ntmps12
  go_wp2
  go_loopg [4, 5] n (fun j v i wr => ∃ m : Nat, m + j = n ∧ i = .int .i64 m ∧ (∃ A n c, v = .slice A n c) ∧ wr.ownsRow w.heap.size 5 1 v (2 * m) (ints .u8 (hexTo L m)) ∧ (0 < m → ∃ g c, v = .slice (some ⟨g, 0, none⟩) (2 * m) c) ∧ (m = 0 → v = .slice none 0 0) ∧ Below w.heap.size w wr)
  case atStart => exact ⟨0, by omega, rfl, ⟨_, _, _, rfl⟩, by rw [hexTo_zero]; exact World.ownsRow_nil _ _ _ _, fun h => by omega, fun _ => rfl, Below.refl _ _⟩
  case round =>
    obtain ⟨x, hmj, rfl, ⟨A3, n3, c3, rfl⟩, hown, hvs, hv0, hb⟩ := hrel
    have Hmj := Lib.hid hmj; have hmn : x ≤ n := by omega
    have Hvs := Lib.hid hvs; have Hv0 := Lib.hid hv0
    clear hmj hvs hv0
    by_cases hlt : x < n
    · obtain ⟨b, off, hA, hIb, hc⟩ := HR.out.2 (by omega)
      subst hA
      have hcell : wr.cell? ⟨b, off + x, none⟩ = some (.int .u8 (gI L x)) := by
        rw [hb.cell (p := ⟨b, off + x, none⟩) (HII.out b hIb)]
        refine hc x _ ?_
        have : x < L.length := by rw [← Hn1.out]; exact hlt
        simp [ints, gI, List.getElem?_eq_getElem this]
      have gx := HB.out x
      have i1 := hex_idx (gI L x / 16) (gI L x / 16) (by omega) (by omega) rfl
      have i2 := hex_idx (gI L x % 16) (gI L x % 16) (by omega) (by omega) rfl
      have td : (gI L x).tdiv 16 = gI L x / 16 := Int.tdiv_eq_ediv_of_nonneg gx.1
      have tm : (gI L x).tmod 16 = gI L x % 16 := Int.tmod_eq_emod_of_nonneg gx.1
      have w1 : IntKind.u8.wrap (gI L x / 16) = gI L x / 16 := IntWalk.u8_in _ (by omega)
      have w2 : IntKind.u8.wrap (gI L x % 16) = gI L x % 16 := IntWalk.u8_in _ (by omega)
      have hbw0 : b < w.heap.size := HII.out b hIb
      have hbw : b < wr.heap.size := Nat.lt_of_lt_of_le hbw0 hb.size
      have xlt : (x : Int) < (n : Int) := by omega
      have x0 : (0 : Int) ≤ (x : Int) := by omega
      clear hc
      go_wp2_with fail
      go_region_held3 (fun w' => w'.cell? ⟨b, off + x, none⟩ = some (.int .u8 (gI L x))) (first | exact hcell | exact (World.cell?_alloc_lt _ _ _ (by exact hbw)).trans hcell | exact (World.cell?_of_block (hg'.block b hbw (fun e => by have h1 := (hown.lt b e.symm).1; omega))).trans hcell) ((refine step_new (o := ⟨some 28, _, _, _, _, _⟩) rfl (.tmp 12) (.tmp 27) 22 rfl w.heap.size 5 _ 1 1 Tryd.underlying22 u8info rfl (by decide) _ _ _ hown #[.int .u8 (hexd (gI L x / 16)), .int .u8 (hexd (gI L x % 16))] 2 rfl rfl rfl rfl (by simp only [maxLen]; omega) (by omega) hb.size ?_; intro v' w' hown2 hg' hsz' hat' hsh'))
      all_goals
        obtain ⟨g', c', rfl⟩ := hsh' (by omega)
        go_wp2
        go_roundg (gk - 1)
        case measure => have := Hmj.out; omega
        case rel =>
          refine ⟨x + 1, by have := Hmj.out; omega, by go_num, ⟨_, _, _, rfl⟩, ?_, fun _ => ⟨g', c', by rw [show 2 * (x + 1) = 2 * x + 2 from by omega]⟩, fun h => by omega, hb.grown hg' hb.size (fun y hy => (hown.lt y hy).1)⟩
          rw [hexTo_succ, ints_append, show 2 * (x + 1) = 2 * x + 2 from by omega]
          exact hown2
    · have hx : x = n := by omega
      have hrd : Rd wr (fun _ => True) 1 A3 n3 (ints .u8 (hexI L)) ∧ n3 = (hexI L).length := by
        have hL : hexTo L x = hexI L := by rw [hx, Hn1.out]; rfl
        have hlen : 2 * x = (hexI L).length := by rw [← hL, hexTo_length]
        rw [hL, hlen] at hown
        rcases Nat.eq_zero_or_pos x with h0 | h0
        · have := Hv0.out h0
          simp only [Value.slice.injEq] at this
          obtain ⟨rfl, rfl, rfl⟩ := this
          have h00 : (hexI L).length = 0 := by omega
          exact ⟨⟨by simp [ints, h00], fun h => by omega⟩, by omega⟩
        · obtain ⟨g, c, hv⟩ := Hvs.out h0
          simp only [Value.slice.injEq] at hv
          obtain ⟨rfl, rfl, rfl⟩ := hv
          refine ⟨⟨by simp [ints, hlen], fun _ => ⟨g, 0, rfl, trivial, fun j u hu => ?_⟩⟩, hlen⟩
          rw [Nat.zero_add]
          rw [← hlen] at hown
          have hj : j < 2 * x := by
            have := (List.getElem?_eq_some_iff.1 hu).1
            simp [ints] at this; omega
          rw [hown.cellAt j (by omega)]
          exact hu
      have hcv := conv_str (P := Tryd.prog) (w := wr) 22 5 9 Tryd.underlying22 Tryd.underlying5 Tryd.underlying9 A3 c3 (hexI L) n3 hrd.2 hrd.1
      have Hcv := Lib.hid hcv
      have hf : Str (hexI L) w (.returned (.string (strOfNums (hexI L)))) wr := ⟨rfl, hb⟩
      have Hf := Lib.hid hf
      clear hf hrd hx hown
      clear Hcv
      go_wp2
      go_ret
      exact Hf.out
end Go.Proofs.YtmacnffbainepaaDoor
