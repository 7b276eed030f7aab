/- Words of SHA-256: the schedule of a block, in the reference's text. -/
import Derived.Test.YtmacnffbainepaaDoorA
namespace Go.Proofs.YtmacnffbainepaaDoor
open Go.RowKit
theorem or_add (x c : Nat) (i : Nat) (hx : x * 2 ^ i < 4294967296) (hc : c < 2 ^ i) (h : c < 4294967296) : bits .or .u32 ((x * 2 ^ i : Nat) : Int) (c : Int) = ((x * 2 ^ i + c : Nat) : Int) := by
  rw [u32_or_nat _ _ hx h, ← Nat.shiftLeft_eq, Nat.shiftLeft_add_eq_or_of_lt hc]
theorem acc_four (B : Nat → Int) (hb : ∀ i, 0 ≤ B i ∧ B i < 256) (i : Nat) : accI B i 4 = B (4 * i) * 16777216 + B (4 * i + 1) * 65536 + B (4 * i + 2) * 256 + B (4 * i + 3) := by
  have h0 := hb (4 * i); have h1 := hb (4 * i + 1); have h2 := hb (4 * i + 2); have h3 := hb (4 * i + 3)
  simp only [accI, Nat.add_zero]
  generalize B (4 * i) = b0 at *; generalize B (4 * i + 1) = b1 at *; generalize B (4 * i + 2) = b2 at *; generalize B (4 * i + 3) = b3 at *
  obtain ⟨b0, rfl⟩ := Int.eq_ofNat_of_zero_le h0.1; obtain ⟨b1, rfl⟩ := Int.eq_ofNat_of_zero_le h1.1; obtain ⟨b2, rfl⟩ := Int.eq_ofNat_of_zero_le h2.1; obtain ⟨b3, rfl⟩ := Int.eq_ofNat_of_zero_le h3.1
  have e0 : bits .or .u32 (0 * 256 % 4294967296) (b0 : Int) = (b0 : Int) := by
    have := or_add 0 b0 8 (by omega) (by omega) (by omega); simpa using this
  have e1 : bits .or .u32 ((b0 : Int) * 256 % 4294967296) (b1 : Int) = ((b0 * 256 + b1 : Nat) : Int) := by
    have := or_add b0 b1 8 (by omega) (by omega) (by omega)
    rw [show ((b0 : Int) * 256 % 4294967296) = ((b0 * 2 ^ 8 : Nat) : Int) by omega]; exact this
  have e2 : bits .or .u32 (((b0 * 256 + b1 : Nat) : Int) * 256 % 4294967296) (b2 : Int) = (((b0 * 256 + b1) * 256 + b2 : Nat) : Int) := by
    have := or_add (b0 * 256 + b1) b2 8 (by omega) (by omega) (by omega)
    rw [show (((b0 * 256 + b1 : Nat) : Int) * 256 % 4294967296) = (((b0 * 256 + b1) * 2 ^ 8 : Nat) : Int) by omega]; exact this
  have e3 : bits .or .u32 ((((b0 * 256 + b1) * 256 + b2 : Nat) : Int) * 256 % 4294967296) (b3 : Int) = ((((b0 * 256 + b1) * 256 + b2) * 256 + b3 : Nat) : Int) := by
    have := or_add ((b0 * 256 + b1) * 256 + b2) b3 8 (by omega) (by omega) (by omega)
    rw [show ((((b0 * 256 + b1) * 256 + b2 : Nat) : Int) * 256 % 4294967296) = ((((b0 * 256 + b1) * 256 + b2) * 2 ^ 8 : Nat) : Int) by omega]; exact this
  rw [e0, e1, e2, e3]
  omega
theorem word_ref (B : Nat → Int) (hb : ∀ i, 0 ≤ B i ∧ B i < 256) (i : Nat) : bits .or .u32 (bits .or .u32 (bits .or .u32 (B (4 * i) * 16777216) (B (4 * i + 1) * 65536)) (B (4 * i + 2) * 256)) (B (4 * i + 3)) = accI B i 4 := by
  rw [acc_four B hb]
  have h0 := hb (4 * i); have h1 := hb (4 * i + 1); have h2 := hb (4 * i + 2); have h3 := hb (4 * i + 3)
  generalize B (4 * i) = b0 at *; generalize B (4 * i + 1) = b1 at *; generalize B (4 * i + 2) = b2 at *; generalize B (4 * i + 3) = b3 at *
  obtain ⟨b0, rfl⟩ := Int.eq_ofNat_of_zero_le h0.1; obtain ⟨b1, rfl⟩ := Int.eq_ofNat_of_zero_le h1.1; obtain ⟨b2, rfl⟩ := Int.eq_ofNat_of_zero_le h2.1; obtain ⟨b3, rfl⟩ := Int.eq_ofNat_of_zero_le h3.1
  have e1 : bits .or .u32 ((b0 : Int) * 16777216) ((b1 : Int) * 65536) = ((b0 * 2 ^ 24 + b1 * 65536 : Nat) : Int) := by
    have := or_add b0 (b1 * 65536) 24 (by omega) (by omega) (by omega)
    rw [show ((b0 * 2 ^ 24 : Nat) : Int) = (b0 : Int) * 16777216 by omega, show ((b1 * 65536 : Nat) : Int) = (b1 : Int) * 65536 by omega] at this
    exact this
  have e2 : bits .or .u32 ((b0 * 2 ^ 24 + b1 * 65536 : Nat) : Int) ((b2 : Int) * 256) = (((b0 * 256 + b1) * 2 ^ 16 + b2 * 256 : Nat) : Int) := by
    have := or_add (b0 * 256 + b1) (b2 * 256) 16 (by omega) (by omega) (by omega)
    rw [show (((b0 * 256 + b1) * 2 ^ 16 : Nat) : Int) = ((b0 * 2 ^ 24 + b1 * 65536 : Nat) : Int) by omega, show ((b2 * 256 : Nat) : Int) = (b2 : Int) * 256 by omega] at this
    exact this
  have e3 : bits .or .u32 (((b0 * 256 + b1) * 2 ^ 16 + b2 * 256 : Nat) : Int) (b3 : Int) = ((((b0 * 256 + b1) * 256 + b2) * 2 ^ 8 + b3 : Nat) : Int) := by
    have := or_add ((b0 * 256 + b1) * 256 + b2) b3 8 (by omega) (by omega) (by omega)
    rw [show ((((b0 * 256 + b1) * 256 + b2) * 2 ^ 8 : Nat) : Int) = (((b0 * 256 + b1) * 2 ^ 16 + b2 * 256 : Nat) : Int) by omega] at this
    exact this
  rw [e1, e2, e3]
  omega
theorem wv_word (B : Nat → Int) (k j : Nat) (hk : k < 16) : (if j = k then .int .u32 (accI B k 4) else wv B k j) = wv B (k + 1) j := by
  simp only [wv, ws, if_pos hk, gI_snoc, ws_length]
  by_cases e : j = k
  · rw [if_pos e, if_pos e]
  · rw [if_neg e, if_neg e]
set_option maxRecDepth 100000 in
set_option maxHeartbeats 800000 in
theorem words20 (B : Nat → Int) (b off cap : Nat) (w : World) (hc : ∀ i, i < 64 → w.cell? ⟨b, off + i, none⟩ = some (.int .u8 (B i))) (hb : ∀ i, 0 ≤ B i ∧ B i < 256) :
    Calls Tryd.prog 20 #[.slice (some ⟨b, off, none⟩) 64 cap] w fun e w' => e = .returned (.agg ((ws B 64).map (Value.int .u32)).toArray) ∧ Below w.heap.size w w' := by
  have hbs : b < w.heap.size := by have := hc 0 (by omega); exact block_lt_of_cell this
  have Hb := Lib.hid hb; clear hb
  have Hc := Lib.hid hc; clear hc
  go_enter Tryd.func20, Tryd.ntmps20
  go_wp2
  go_loopw [4] (fun i wr => ∃ k : Nat, k ≤ 16 ∧ i = .int .i64 k ∧ Hid (wr.heap.size = w.heap.size + 2) ∧ Below w.heap.size w wr ∧ wr.rowIs w.heap.size 38 64 (fun _ => .int .u32 0) ∧ wr.rowIs (w.heap.size + 1) 38 64 (wv B k))
    (fun i _ => 16 - (intOf i).toNat)
  case atStart =>
    refine ⟨0, by omega, rfl, Lib.hid (by simp), ?_, ?_, ?_⟩
    · exact ((Below.refl _ _).alloc (Nat.le_refl _) _).alloc (by simp) _
    · refine World.rowIs.alloc ?_ _
      exact zeros_row (by simp) rfl
    · refine World.rowIs.congr (f := fun _ => .int .u32 0) ?_ (fun i _ => rfl)
      exact zeros_row (by simp) rfl
  case round =>
    obtain ⟨k, hk, rfl, Hs, hbl, r1, r2⟩ := hrel
    by_cases hlt : k < 16
    · have d0 : wr.cell? ⟨b, off + 4 * k, none⟩ = some (.int .u8 (B (4 * k))) := (hbl.cell (by exact hbs)).trans (Hc.out (4 * k) (by omega))
      have d1 : wr.cell? ⟨b, off + (4 * k + 1), none⟩ = some (.int .u8 (B (4 * k + 1))) := (hbl.cell (by exact hbs)).trans (Hc.out (4 * k + 1) (by omega))
      have d2 : wr.cell? ⟨b, off + (4 * k + 2), none⟩ = some (.int .u8 (B (4 * k + 2))) := (hbl.cell (by exact hbs)).trans (Hc.out (4 * k + 2) (by omega))
      have d3 : wr.cell? ⟨b, off + (4 * k + 3), none⟩ = some (.int .u8 (B (4 * k + 3))) := (hbl.cell (by exact hbs)).trans (Hc.out (4 * k + 3) (by omega))
      have b0 := Hb.out (4 * k); have b1 := Hb.out (4 * k + 1); have b2 := Hb.out (4 * k + 2); have b3 := Hb.out (4 * k + 3)
      have w0 : IntKind.i64.wrap (4 * (k : Int)) = 4 * (k : Int) := IntWalk.i64_in _ (by omega)
      have w1 : IntKind.i64.wrap (4 * (k : Int) + 1) = 4 * (k : Int) + 1 := IntWalk.i64_in _ (by omega)
      have w2 : IntKind.i64.wrap (4 * (k : Int) + 2) = 4 * (k : Int) + 2 := IntWalk.i64_in _ (by omega)
      have w3 : IntKind.i64.wrap (4 * (k : Int) + 3) = 4 * (k : Int) + 3 := IntWalk.i64_in _ (by omega)
      have t0 : (4 * (k : Int)).toNat = 4 * k := by omega
      have t1 : (4 * (k : Int) + 1).toNat = 4 * k + 1 := by omega
      have t2 : (4 * (k : Int) + 2).toNat = 4 * k + 2 := by omega
      have t3 : (4 * (k : Int) + 3).toNat = 4 * k + 3 := by omega
      have p0 : (0 : Int) ≤ 4 * (k : Int) := by omega
      have p1 : (0 : Int) ≤ 4 * (k : Int) + 1 := by omega
      have p2 : (0 : Int) ≤ 4 * (k : Int) + 2 := by omega
      have p3 : (0 : Int) ≤ 4 * (k : Int) + 3 := by omega
      have q0 : 4 * (k : Int) < 64 := by omega
      have q1 : 4 * (k : Int) + 1 < 64 := by omega
      have q2 : 4 * (k : Int) + 2 < 64 := by omega
      have q3 : 4 * (k : Int) + 3 < 64 := by omega
      have qk : (k : Int) < 64 := by omega
      have ff := r2.frozen k
      have cc : wr.cell? ⟨w.heap.size + 1, k, none⟩ = some (wv B k k) := r2.cell (i := k) (by omega)
      go_wp2_with fail
      go_region
      clear d0 d1 d2 d3 b0 b1 b2 b3 w0 w1 w2 w3 t0 t1 t2 t3 p0 p1 p2 p3 q0 q1 q2 q3 qk ff cc
      go_wp2
      go_roundw
      case rel =>
        refine ⟨k + 1, by omega, by go_num, Lib.hid (by simpa using Hs.out), (hbl.setCell (by simp) _).drew, (r1.setOther (by simp) _).drew, ((r2.set k _).congr (fun j _ => ?_)).drew⟩
        rw [word_ref B Hb.out]
        exact wv_word B k j hlt
      case measure => simp [intOf]; omega
    · have e4 : k = 16 := by omega
      have r2' : wr.rowIs (w.heap.size + 1) 38 64 (wv B 16) := by rw [← e4]; exact r2
      clear r2
      clear e4
      go_wp2
      go_loopw [5] (fun i wr => ∃ k : Nat, 16 ≤ k ∧ k ≤ 64 ∧ i = .int .i64 k ∧ Hid (wr.heap.size = w.heap.size + 2) ∧ Below w.heap.size w wr ∧ wr.rowIs w.heap.size 38 64 (fun _ => .int .u32 0) ∧ wr.rowIs (w.heap.size + 1) 38 64 (wv B k))
        (fun i _ => 64 - (intOf i).toNat)
      case atStart => exact ⟨16, by omega, by omega, rfl, Hs, hbl, r1, r2'⟩
      case round =>
        clear r1 r2' hbl Hs
        obtain ⟨m, hk1, hk', rfl, Hs, hbl, r1, r2⟩ := hrel

        by_cases hlt : m < 64
        · have c15 := r2.cell (i := m - 15) (by omega)
          have c2 := r2.cell (i := m - 2) (by omega)
          have c7 := r2.cell (i := m - 7) (by omega)
          have c16 := r2.cell (i := m - 16) (by omega)
          have hk1' : (16 : Int) ≤ (m : Int) := by omega
          have e15 : IntKind.i64.wrap ((m : Int) - 15) = (m : Int) - 15 := IntWalk.i64_in _ (by omega)
          have e2 : IntKind.i64.wrap ((m : Int) - 2) = (m : Int) - 2 := IntWalk.i64_in _ (by omega)
          have t15 : ((m : Int) - 15).toNat = m - 15 := by omega
          have t2 : ((m : Int) - 2).toNat = m - 2 := by omega
          have p15 : (0 : Int) ≤ (m : Int) - 15 := by omega
          have p2 : (0 : Int) ≤ (m : Int) - 2 := by omega
          have q15 : (m : Int) - 15 < 64 := by omega
          have q2 : (m : Int) - 2 < 64 := by omega
          have g15 := gI_range B m (m - 15)
          have g2 := gI_range B m (m - 2)
          have c15' : wr.cell? ⟨w.heap.size + 1, m - 15, none⟩ = some (.int .u32 (gI (ws B m) (m - 15))) := c15
          have c2' : wr.cell? ⟨w.heap.size + 1, m - 2, none⟩ = some (.int .u32 (gI (ws B m) (m - 2))) := c2
          have c7' : wr.cell? ⟨w.heap.size + 1, m - 7, none⟩ = some (.int .u32 (gI (ws B m) (m - 7))) := c7
          have c16' : wr.cell? ⟨w.heap.size + 1, m - 16, none⟩ = some (.int .u32 (gI (ws B m) (m - 16))) := c16
          clear c15 c2 c7 c16
          go_wp2_with fail
          go_quiet (fail)
          clear e15 e2 t15 t2 p15 p2 q15 q2
          go_wp2_with (go_at_call 21; refine (rot_ref _ _ _ (by omega) (by omega) (by omega) (by omega)).mono ?_; rintro e w' ⟨rfl, rfl⟩)
          have e7 : IntKind.i64.wrap ((m : Int) - 7) = (m : Int) - 7 := IntWalk.i64_in _ (by omega)
          have e16 : IntKind.i64.wrap ((m : Int) - 16) = (m : Int) - 16 := IntWalk.i64_in _ (by omega)
          have t7 : ((m : Int) - 7).toNat = m - 7 := by omega
          have t16 : ((m : Int) - 16).toNat = m - 16 := by omega
          have p7 : (0 : Int) ≤ (m : Int) - 7 := by omega
          have p16 : (0 : Int) ≤ (m : Int) - 16 := by omega
          have q7 : (m : Int) - 7 < 64 := by omega
          have q16 : (m : Int) - 16 < 64 := by omega
          have qk : (m : Int) < 64 := by omega
          have ff := r2.frozen m
          have cc := r2.cell (i := m) (by omega)
          go_region
          clear e7 e16 t7 t16 p7 p16 q7 q16 qk ff cc c15' c2' c7' c16'
          go_wp2
          go_roundw
          case rel =>
            refine ⟨m + 1, by omega, by omega, by go_num, Lib.hid (by simpa using Hs.out), (below_draws hbl _).setCell (by simp) _, (row_draws r1 _).setOther (by simp) _, ((row_draws r2 _).set m _).congr (fun j _ => ?_)⟩
            exact wv_succ B m j (by omega)
          case measure => simp [intOf]; omega
        · have e4 : m = 64 := by omega
          have r2' : wr.rowIs (w.heap.size + 1) 38 64 (wv B 64) := e4 ▸ r2
          clear r2 e4
          have hl := row_block (l := ws B 64) (k := .u32) r2' (ws_length B 64)
          obtain ⟨old, ho, hon, _⟩ := r1
          have hsz : ((ws B 64).map (Value.int .u32)).toArray.size = 64 := by simp [ws_length]
          have hall := ints_one .u32 (ws B 64)
          generalize hout : ((ws B 64).map (Value.int .u32)).toArray = out at hl hsz hall
          have hz : (Tryd.prog.info? 38).map (·.size) = some out.size := by rw [hsz]; kernel_rfl
          have Hz := Lib.hid hz; have Hl := Lib.hid hl; have Ho := Lib.hid ho; have Hon := Lib.hid (hon.trans hsz.symm); have Hall := Lib.hid hall; have Hout := Lib.hid hout
          clear hz hl ho hon hall hsz hout
          go_wp2_with (first | (refine wpList_load_row rfl 38 (.tmp 3) rfl (w.heap.size + 1) rfl 38 out (0, 0) _ Hl.out Tryd.underlying38 rfl Hz.out ?_) | (refine wpList_store_row rfl 38 (.tmp 2) (.tmp 92) rfl w.heap.size out rfl rfl 38 old Ho.out Hz.out Hon.out Hall.out ?_))
          refine bodyPost_ret (v := .agg out) (results_cell_row rfl _ _ w.heap.size 38 out (0, 0) _ rfl (setRow_heap _ _ _ _ _ _ Ho.out) Tryd.underlying38 rfl Hz.out) rfl ⟨by rw [Hout.out], ?_⟩
          exact hbl.trans ⟨rfl, rfl, rfl, by simp, fun i hi => setRow_other _ _ _ _ (by omega)⟩
end Go.Proofs.YtmacnffbainepaaDoor
