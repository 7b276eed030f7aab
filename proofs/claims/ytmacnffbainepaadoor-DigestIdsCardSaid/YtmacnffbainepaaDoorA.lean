/- Words of SHA-256: rotations, the schedule of a block, in the program's text. -/
import Derived.Test.YtmacnffbainepaaDoorBase
namespace Go.Proofs.YtmacnffbainepaaDoor
open Go.RowKit
def rotI (x n : Int) : Int := bits .or .u32 (x / 2 ^ n.toNat) (x * 2 ^ (32 - n).toNat % 4294967296)
theorem bits_range (op : BinOp) (x y : Int) : 0 ≤ bits op .u32 x y ∧ bits op .u32 x y < 4294967296 := by
  unfold bits
  rw [IntKind.wrap_u32']
  omega
theorem rotI_range (x n : Int) : 0 ≤ rotI x n ∧ rotI x n < 4294967296 := bits_range _ _ _
theorem rot_ref (x n : Int) (w : World) (h0 : 0 ≤ x) (h1 : x < 4294967296) (h2 : 0 < n) (h3 : n < 32) :
    Calls Tryd.prog 21 #[.int .u32 x, .int .u64 n] w fun e w' => e = .returned (.int .u32 (rotI x n)) ∧ w = w' := by
  go_enter Tryd.func21, Tryd.ntmps21
  go_wp2
  go_ret
  exact ⟨rfl, rfl⟩
theorem and31 : ∀ m : Fin 32, bits .and .u64 ((-(m.val : Int)) % 18446744073709551616) 31 = ((32 - m.val) % 32 : Nat) := by decide +kernel
theorem or_comm (x y : Int) : bits .or .u32 x y = bits .or .u32 y x := by
  simp only [bits, BitVec.or_comm]
set_option maxHeartbeats 400000 in
theorem rot_bits (x n : Int) (w : World) (h0 : 0 ≤ x) (h1 : x < 4294967296) (h2 : 0 < n) (h3 : n < 32) :
    Calls Tryd.prog 19 #[.int .u32 x, .int .i64 n] w fun e w' => e = .returned (.int .u32 (rotI x n)) ∧ w = w' := by
  have h := and31 ⟨n.toNat, by omega⟩
  simp only at h
  rw [Int.toNat_of_nonneg (by omega)] at h
  have e : (((32 - n.toNat) % 32 : Nat) : Int) = 32 - n := by omega
  rw [e] at h
  have h' : bits .and .u64 (IntKind.u64.wrap (-n)) 31 = 32 - n := by rw [IntKind.wrap_u64]; exact h
  clear h e
  have hr : bits .or .u32 (x * 2 ^ (32 - n).toNat % 4294967296) (x / 2 ^ n.toNat) = rotI x n := or_comm _ _
  have Hr := Lib.hid hr; clear hr
  go_enter Tryd.func19, Tryd.ntmps19
  go_wp2
  go_ret
  exact ⟨ret_int (show bits .or .u32 (x * 2 ^ (32 - n).toNat % 4294967296) (x / 2 ^ (32 - (32 - n)).toNat) = rotI x n by rw [show 32 - (32 - n) = n from by omega]; exact Hr.out), rfl⟩
/-- the first k bytes of word i, shifted together -/
def accI (B : Nat → Int) (i : Nat) : Nat → Int
  | 0 => 0
  | m + 1 => bits .or .u32 (accI B i m * 256 % 4294967296) (B (4 * i + m))
theorem accI_range (B : Nat → Int) (i m : Nat) : 0 ≤ accI B i m ∧ accI B i m < 4294967296 := by
  cases m with
  | zero => simp [accI]
  | succ m => exact bits_range _ _ _
def sigma0 (x : Int) : Int := bits .xor .u32 (bits .xor .u32 (rotI x 7) (rotI x 18)) (x / 8)
def sigma1 (x : Int) : Int := bits .xor .u32 (bits .xor .u32 (rotI x 17) (rotI x 19)) (x / 1024)
/-- the first n words of a block -/
def ws (B : Nat → Int) : Nat → List Int
  | 0 => []
  | n + 1 => ws B n ++ [if n < 16 then accI B n 4 else (gI (ws B n) (n - 16) + sigma0 (gI (ws B n) (n - 15)) + gI (ws B n) (n - 7) + sigma1 (gI (ws B n) (n - 2))) % 4294967296]
theorem ws_length (B : Nat → Int) (n : Nat) : (ws B n).length = n := by
  induction n with
  | zero => rfl
  | succ n ih => simp [ws, ih]
def wv (B : Nat → Int) (n : Nat) (j : Nat) : Value := .int .u32 (gI (ws B n) j)
def wp (B : Nat → Int) (k m : Nat) (j : Nat) : Value := .int .u32 (if j = k then accI B k m else gI (ws B k) j)
theorem wv_succ (B : Nat → Int) (k j : Nat) (hk : ¬ k < 16) : (if j = k then .int .u32 ((gI (ws B k) (k - 16) + sigma0 (gI (ws B k) (k - 15)) + gI (ws B k) (k - 7) + sigma1 (gI (ws B k) (k - 2))) % 4294967296) else wv B k j) = wv B (k + 1) j := by
  simp only [wv, ws, if_neg hk, gI_snoc, ws_length]
  by_cases e : j = k
  · rw [if_pos e, if_pos e]
  · rw [if_neg e, if_neg e]
theorem wp_zero (B : Nat → Int) (k j : Nat) : wp B k 0 j = wv B k j := by
  simp only [wp, wv, accI]
  split
  · rename_i h; subst h
    unfold gI
    rw [List.getD_eq_getElem?_getD, List.getElem?_eq_none (by rw [ws_length]; omega)]; rfl
  · rfl
theorem wp_four (B : Nat → Int) (k j : Nat) (hk : k < 16) : wp B k 4 j = wv B (k+1) j := by
  simp only [wp, wv, ws, if_pos hk, gI_snoc, ws_length]
theorem wp_succ (B : Nat → Int) (k m j : Nat) : (if j = k then .int .u32 (accI B k (m+1)) else wp B k m j) = wp B k (m+1) j := by
  simp only [wp]
  by_cases e : j = k
  · subst e; simp
  · simp [e]
theorem wp_self (B : Nat → Int) (k m : Nat) : wp B k m k = .int .u32 (accI B k m) := by simp [wp]
theorem slice34 (b k : Nat) (hk : k < 16) (w : World) : (Instr.sliceAt 34 (.pointer (some ⟨b, 0, none⟩)) (some (.int .i64 (4 * (k : Int)))) (some (.int .i64 (4 * (k : Int) + 4))) none).run Tryd.prog w = .ok (.slice (some ⟨b, 4 * k, none⟩) 4 (64 - 4 * k)) w := by
  have hl : Tryd.prog.arrayLen 34 = 64 := by kernel_rfl
  have he : Tryd.prog.elem 34 = 5 := by kernel_rfl
  have hs : ∀ w, (sizeOf 5).run Tryd.prog w = .ok 1 w := fun w => by kernel_rfl
  rw [run_sliceAt_array_lh w 34 ⟨b, 0, none⟩ (by kernel_rfl) .i64 .i64 _ _ (by omega) (by omega) (by rw [hl]; omega), he, hs, hl]
  have e1 : (4 * (k : Int)).toNat = 4 * k := by omega
  have e2 : (4 * (k : Int) + 4).toNat = 4 * k + 4 := by omega
  simp only [Result.andThen, slicedAt, e1, e2, Nat.mul_one]
  rw [if_neg (by omega)]
  have e3 : (⟨b, 0, none⟩ : Addr).add (4 * k) = ⟨b, 4 * k, none⟩ := by unfold Addr.add; split <;> simp_all
  have e4 : 4 * k + 4 - 4 * k = 4 := by omega
  rw [e3, e4]
theorem gI_range (B : Nat → Int) (n j : Nat) : 0 ≤ gI (ws B n) j ∧ gI (ws B n) j < 4294967296 := by
  induction n with
  | zero => simp [ws, gI]
  | succ n ih =>
    simp only [ws, gI_snoc]
    split
    · split
      · exact accI_range _ _ _
      · omega
    · exact ih
set_option maxRecDepth 100000 in
set_option maxHeartbeats 400000 in
theorem words18 (B : Nat → Int) (cs : Array Value) (w : World) (hn : cs.size = 64) (hc : ∀ i, i < 64 → cs[i]? = some (.int .u8 (B i))) (hb : ∀ i, 0 ≤ B i ∧ B i < 256) :
    Calls Tryd.prog 18 #[.agg cs] w fun e w' => e = .returned (.agg ((ws B 64).map (Value.int .u32)).toArray) ∧ Below w.heap.size w w' := by
  have Hb := Lib.hid hb; clear hb
  have Hc := Lib.hid hc; clear hc
  have Hn := Lib.hid hn; clear hn
  go_enter Tryd.func18, Tryd.ntmps18
  go_wp2
  go_loopw [12] (fun i wr => ∃ k : Nat, k ≤ 16 ∧ i = .int .i64 k ∧ Hid (wr.heap.size = w.heap.size + 3) ∧ Below w.heap.size w wr ∧ wr.rowIs w.heap.size 34 64 (fun j => .int .u8 (B j)) ∧ wr.rowIs (w.heap.size + 1) 38 64 (fun _ => .int .u32 0) ∧ wr.rowIs (w.heap.size + 2) 38 64 (wv B k))
    (fun i _ => 16 - (intOf i).toNat)
  case atStart =>
    refine ⟨0, by omega, rfl, Lib.hid (by simp), ?_, ?_, ?_, ?_⟩
    · exact (((Below.refl _ _).alloc (Nat.le_refl _) _).alloc (by simp) _).alloc (by simp; omega) _
    · refine ((World.rowIs.congr (n := 64) ?_ (fun i hi => rfl)).alloc _).alloc _
      have h := World.rowIs_alloc w cs 34 (fun j => .int .u8 (B j)) (fun i hi => Hc.out i (by rw [← Hn.out]; exact hi))
      rw [Hn.out] at h
      exact h
    · refine World.rowIs.alloc ?_ _
      exact zeros_row (by simp) rfl
    · refine World.rowIs.congr (f := fun _ => .int .u32 0) ?_ (fun i _ => rfl)
      exact zeros_row (by simp) rfl
  case round =>
    obtain ⟨k, hk, rfl, Hs, hbl, r0, r1, r2⟩ := hrel
    by_cases hlt : k < 16
    · have hsl := slice34 w.heap.size k hlt
      go_wp2
      clear hsl
      obtain ⟨wo, rfl⟩ : ∃ wo : World, wo = wr := ⟨_, rfl⟩
      go_loopw [22] (fun i wr => ∃ m : Nat, m ≤ 4 ∧ i = .int .i64 m ∧ Hid (wr.heap.size = w.heap.size + 3) ∧ Below w.heap.size w wr ∧ wr.rowIs w.heap.size 34 64 (fun j => .int .u8 (B j)) ∧ wr.rowIs (w.heap.size + 1) 38 64 (fun _ => .int .u32 0) ∧ wr.rowIs (w.heap.size + 2) 38 64 (wp B k m))
        (fun i _ => 4 - (intOf i).toNat)
      case atStart => exact ⟨0, by omega, rfl, Hs, hbl, r0, r1, r2.congr (fun j _ => (wp_zero B k j).symm)⟩
      case round =>
        clear r0 r1 r2 hbl Hs
        obtain ⟨m, hm, rfl, Hs, hbl, r0, r1, r2⟩ := hrel
        by_cases hlm : m < 4
        · have c0 := r0.cell (i := 4 * k + m) (by omega)
          have c2 := r2.cell (i := k) (by omega)
          rw [wp_self] at c2
          have f2 := r2.frozen k
          have hbm := Hb.out (4 * k + m)
          go_wp2
          go_roundw
          case rel =>
            exact ⟨m + 1, by omega, by go_num, by rw [Hid]; simpa using Hs.out, hbl.setCell (by simp; omega) _, r0.setOther (by simp; omega) _, r1.setOther (by simp) _, (r2.set k _).congr (fun j _ => wp_succ B k m j)⟩
          case measure => simp [intOf]; omega
        · have e4 : m = 4 := by omega
          subst e4
          go_wp2
          go_roundw
          case rel => exact ⟨k + 1, by omega, by go_num, Hs, hbl, r0, r1, r2.congr (fun j _ => wp_four B k j hlt)⟩
          case measure => simp [intOf]; omega
    · have e4 : k = 16 := by omega
      have r2' : wr.rowIs (w.heap.size + 2) 38 64 (wv B 16) := by rw [← e4]; exact r2
      clear r2
      clear e4
      go_wp2
      go_loopw [7] (fun i wr => ∃ k : Nat, 16 ≤ k ∧ k ≤ 64 ∧ i = .int .i64 k ∧ Hid (wr.heap.size = w.heap.size + 3) ∧ Below w.heap.size w wr ∧ wr.rowIs (w.heap.size + 1) 38 64 (fun _ => .int .u32 0) ∧ wr.rowIs (w.heap.size + 2) 38 64 (wv B k))
        (fun i _ => 64 - (intOf i).toNat)
      case atStart => exact ⟨16, by omega, by omega, rfl, Hs, hbl, r1, r2'⟩
      case round =>
        clear r0 r1 r2' hbl Hs
        obtain ⟨m, hk1, hk', rfl, Hs, hbl, r1, r2⟩ := hrel

        by_cases hlt : m < 64
        · have c15 := r2.cell (i := m - 15) (by omega)
          have c2 := r2.cell (i := m - 2) (by omega)
          have c7 := r2.cell (i := m - 7) (by omega)
          have c16 := r2.cell (i := m - 16) (by omega)
          have hk1' : (16 : Int) ≤ (m : Int) := by omega
          have e15 : IntKind.i64.wrap ((m : Int) - 15) = (m : Int) - 15 := IntWalk.i64_in _ (by omega)
          have e2 : IntKind.i64.wrap ((m : Int) - 2) = (m : Int) - 2 := IntWalk.i64_in _ (by omega)
          have t15 : ((m : Int) - 15).toNat = m - 15 := by omega
          have t2 : ((m : Int) - 2).toNat = m - 2 := by omega
          have p15 : (0 : Int) ≤ (m : Int) - 15 := by omega
          have p2 : (0 : Int) ≤ (m : Int) - 2 := by omega
          have q15 : (m : Int) - 15 < 64 := by omega
          have q2 : (m : Int) - 2 < 64 := by omega
          have g15 := gI_range B m (m - 15)
          have g2 := gI_range B m (m - 2)
          have c15' : wr.cell? ⟨w.heap.size + 2, m - 15, none⟩ = some (.int .u32 (gI (ws B m) (m - 15))) := c15
          have c2' : wr.cell? ⟨w.heap.size + 2, m - 2, none⟩ = some (.int .u32 (gI (ws B m) (m - 2))) := c2
          have c7' : wr.cell? ⟨w.heap.size + 2, m - 7, none⟩ = some (.int .u32 (gI (ws B m) (m - 7))) := c7
          have c16' : wr.cell? ⟨w.heap.size + 2, m - 16, none⟩ = some (.int .u32 (gI (ws B m) (m - 16))) := c16
          clear c15 c2 c7 c16
          go_wp2_with fail
          go_quiet (fail)
          clear e15 e2 t15 t2 p15 p2 q15 q2
          go_wp2_with (go_at_call 19; refine (rot_bits _ _ _ (by omega) (by omega) (by omega) (by omega)).mono ?_; rintro e w' ⟨rfl, rfl⟩)
          have e7 : IntKind.i64.wrap ((m : Int) - 7) = (m : Int) - 7 := IntWalk.i64_in _ (by omega)
          have e16 : IntKind.i64.wrap ((m : Int) - 16) = (m : Int) - 16 := IntWalk.i64_in _ (by omega)
          have t7 : ((m : Int) - 7).toNat = m - 7 := by omega
          have t16 : ((m : Int) - 16).toNat = m - 16 := by omega
          have p7 : (0 : Int) ≤ (m : Int) - 7 := by omega
          have p16 : (0 : Int) ≤ (m : Int) - 16 := by omega
          have q7 : (m : Int) - 7 < 64 := by omega
          have q16 : (m : Int) - 16 < 64 := by omega
          have qk : (m : Int) < 64 := by omega
          have ff := r2.frozen m
          have cc := r2.cell (i := m) (by omega)
          go_region
          clear e7 e16 t7 t16 p7 p16 q7 q16 qk ff cc c15' c2' c7' c16'
          go_wp2
          go_roundw
          case rel =>
            refine ⟨m + 1, by omega, by omega, by go_num, Lib.hid (by simpa using Hs.out), (below_draws hbl _).setCell (by simp; omega) _, (row_draws r1 _).setOther (by simp) _, ((row_draws r2 _).set m _).congr (fun j _ => ?_)⟩
            exact wv_succ B m j (by omega)
          case measure => simp [intOf]; omega
        · have e4 : m = 64 := by omega
          have r2' : wr.rowIs (w.heap.size + 2) 38 64 (wv B 64) := e4 ▸ r2
          clear r2 e4
          have hl := row_block (l := ws B 64) (k := .u32) r2' (ws_length B 64)
          obtain ⟨old, ho, hon, _⟩ := r1
          have hsz : ((ws B 64).map (Value.int .u32)).toArray.size = 64 := by simp [ws_length]
          have hall := ints_one .u32 (ws B 64)
          generalize hout : ((ws B 64).map (Value.int .u32)).toArray = out at hl hsz hall
          have hz : (Tryd.prog.info? 38).map (·.size) = some out.size := by rw [hsz]; kernel_rfl
          have Hz := Lib.hid hz; have Hl := Lib.hid hl; have Ho := Lib.hid ho; have Hon := Lib.hid (hon.trans hsz.symm); have Hall := Lib.hid hall; have Hout := Lib.hid hout
          clear hz hl ho hon hall hsz hout
          go_wp2_with (first | (refine wpList_load_row rfl 38 (.tmp 3) rfl (w.heap.size + 2) rfl 38 out (0, 0) _ Hl.out Tryd.underlying38 rfl Hz.out ?_) | (refine wpList_store_row rfl 38 (.tmp 2) (.tmp 80) rfl (w.heap.size + 1) out rfl rfl 38 old Ho.out Hz.out Hon.out Hall.out ?_))
          refine bodyPost_ret (v := .agg out) (results_cell_row rfl _ _ (w.heap.size + 1) 38 out (0, 0) _ rfl (setRow_heap _ _ _ _ _ _ Ho.out) Tryd.underlying38 rfl Hz.out) rfl ⟨by rw [Hout.out], ?_⟩
          exact hbl.trans ⟨rfl, rfl, rfl, by simp, fun i hi => setRow_other _ _ _ _ (by omega)⟩
end Go.Proofs.YtmacnffbainepaaDoor
