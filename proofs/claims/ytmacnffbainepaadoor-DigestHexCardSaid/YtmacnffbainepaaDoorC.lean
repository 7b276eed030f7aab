/- The rounds of SHA-256 over one block, in the program's text and in the reference's. -/
import Derived.Test.YtmacnffbainepaaDoorB
import Derived.Deep.DeepFit
namespace Go.Proofs.YtmacnffbainepaaDoor
open Go.RowKit
def kk : List Int := [1116352408, 1899447441, 3049323471, 3921009573, 961987163, 1508970993, 2453635748, 2870763221, 3624381080, 310598401, 607225278, 1426881987, 1925078388, 2162078206, 2614888103, 3248222580, 3835390401, 4022224774, 264347078, 604807628, 770255983, 1249150122, 1555081692, 1996064986, 2554220882, 2821834349, 2952996808, 3210313671, 3336571891, 3584528711, 113926993, 338241895, 666307205, 773529912, 1294757372, 1396182291, 1695183700, 1986661051, 2177026350, 2456956037, 2730485921, 2820302411, 3259730800, 3345764771, 3516065817, 3600352804, 4094571909, 275423344, 430227734, 506948616, 659060556, 883997877, 958139571, 1322822218, 1537002063, 1747873779, 1955562222, 2024104815, 2227730452, 2361852424, 2428436474, 2756734187, 3204031479, 3329325298]
/-- one round, for the constant k and the word x -/
def t1I (s : List Int) (k x : Int) : Int := gI s 7 + bits .xor .u32 (bits .xor .u32 (rotI (gI s 4) 6) (rotI (gI s 4) 11)) (rotI (gI s 4) 25) + bits .xor .u32 (bits .and .u32 (gI s 4) (gI s 5)) (bits .and .u32 (bits .xor .u32 IntKind.u32.max (gI s 4)) (gI s 6)) + k + x
def t2I (s : List Int) : Int := bits .xor .u32 (bits .xor .u32 (rotI (gI s 0) 2) (rotI (gI s 0) 13)) (rotI (gI s 0) 22) + bits .xor .u32 (bits .xor .u32 (bits .and .u32 (gI s 0) (gI s 1)) (bits .and .u32 (gI s 0) (gI s 2))) (bits .and .u32 (gI s 1) (gI s 2))
def rndI (s : List Int) (k x : Int) : List Int := [(t1I s k x + t2I s) % 4294967296, gI s 0, gI s 1, gI s 2, (gI s 3 + t1I s k x) % 4294967296, gI s 4, gI s 5, gI s 6]
def rnds (W s : List Int) : Nat → List Int
  | 0 => s
  | n + 1 => rndI (rnds W s n) (gI kk n) (gI W n)
theorem gI_cons0 (x : Int) (l : List Int) : gI (x :: l) 0 = x := rfl
theorem gI_cons (x : Int) (l : List Int) (n : Nat) : gI (x :: l) (n + 1) = gI l n := by simp [gI]
theorem gI_nil (n : Nat) : gI [] n = 0 := by simp [gI]
theorem rnds_zero (W s : List Int) : rnds W s 0 = s := rfl
theorem rnds_succ (W s : List Int) (n : Nat) : rnds W s (n + 1) = rndI (rnds W s n) (gI kk n) (gI W n) := rfl
theorem rnds_range (W s : List Int) (hr : ∀ i, 0 ≤ gI s i ∧ gI s i < 4294967296) : ∀ n i, 0 ≤ gI (rnds W s n) i ∧ gI (rnds W s n) i < 4294967296 := by
  intro n
  induction n with
  | zero => exact hr
  | succ n ih =>
    intro i
    rw [rnds_succ]
    have h0 := ih 0; have h1 := ih 1; have h2 := ih 2; have h4 := ih 4; have h5 := ih 5; have h6 := ih 6
    unfold rndI
    rcases i with _ | _ | _ | _ | _ | _ | _ | _ | i <;> simp only [gI_cons0, gI_cons, gI_nil] <;> omega
/-- the new state is added to the old one -/
def addI (r s : List Int) : List Int := [(gI r 0 + gI s 0) % 4294967296, (gI r 1 + gI s 1) % 4294967296, (gI r 2 + gI s 2) % 4294967296, (gI r 3 + gI s 3) % 4294967296, (gI r 4 + gI s 4) % 4294967296, (gI r 5 + gI s 5) % 4294967296, (gI r 6 + gI s 6) % 4294967296, (gI r 7 + gI s 7) % 4294967296]
theorem addI_at (r s : List Int) (j : Nat) (hj : j < 8) : gI (addI r s) j = (gI r j + gI s j) % 4294967296 := by
  rcases j with _ | _ | _ | _ | _ | _ | _ | _ | j
  all_goals first | rfl | omega
def adding (r s : List Int) (m : Nat) (j : Nat) : Value := .int .u32 (if j < m then gI (addI r s) j else gI r j)
theorem adding_zero (r s : List Int) (j : Nat) : adding r s 0 j = .int .u32 (gI r j) := by simp [adding]
theorem adding_succ (r s : List Int) (m j : Nat) (hm : m < 8) : (if j = m then .int .u32 ((gI r m + gI s m) % 4294967296) else adding r s m j) = adding r s (m + 1) j := by
  unfold adding
  by_cases e : j = m
  · subst e; rw [if_pos rfl, if_pos (by omega), addI_at _ _ _ hm]
  · rw [if_neg e]
    by_cases h : j < m
    · rw [if_pos h, if_pos (by omega)]
    · rw [if_neg h, if_neg (by omega)]
theorem adding_self (r s : List Int) (m : Nat) : adding r s m m = .int .u32 (gI r m) := by simp [adding]
theorem adding_all (r s : List Int) (j : Nat) (hj : j < 8) : adding r s 8 j = .int .u32 (gI (addI r s) j) := by simp [adding, hj]
/-- one block -/
def blockI (B : Nat → Int) (s : List Int) : List Int := addI (rnds (ws B 64) s 64) s
theorem blockI_eq (B : Nat → Int) (s : List Int) : blockI B s = addI (rnds (ws B 64) s 64) s := rfl
theorem blockI_length (B : Nat → Int) (s : List Int) : (blockI B s).length = 8 := rfl
attribute [local irreducible] ws rnds blockI
set_option maxRecDepth 100000 in
set_option maxHeartbeats 1000000 in
theorem round15 (B : Nat → Int) (s : List Int) (bs : Array Value) (w : World) (hn : bs.size = 64) (hc : ∀ i, i < 64 → bs[i]? = some (.int .u8 (B i))) (hb : ∀ i, 0 ≤ B i ∧ B i < 256)
    (hs : s.length = 8) (hr : ∀ i, 0 ≤ gI s i ∧ gI s i < 4294967296) (hk : ∀ i, i < 64 → w.cell? ⟨0, i, none⟩ = some (.int .u32 (gI kk i))) :
    Calls Tryd.prog 15 #[.agg (s.map (Value.int .u32)).toArray, .agg bs] w fun e w' => e = .returned (.agg ((blockI B s).map (Value.int .u32)).toArray) ∧ Below w.heap.size w w' := by
  have hk0 : 0 < w.heap.size := block_lt_of_cell (hk 0 (by omega))
  have Hb := Lib.hid hb; clear hb
  have Hc := Lib.hid hc; clear hc
  have Hn := Lib.hid hn; clear hn
  have Hk := Lib.hid hk; clear hk
  have z34 : (Tryd.prog.info? 34).map (·.size) = some bs.size := by rw [Hn.out]; kernel_rfl
  have Z34 := Lib.hid z34; clear z34
  have Hr := Lib.hid hr; clear hr
  obtain ⟨s0, s1, s2, s3, s4, s5, s6, s7, es⟩ : ∃ s0 s1 s2 s3 s4 s5 s6 s7 : Int, s = [s0, s1, s2, s3, s4, s5, s6, s7] := by
    match s, hs with
    | [s0, s1, s2, s3, s4, s5, s6, s7], _ => exact ⟨_, _, _, _, _, _, _, _, rfl⟩
  have E : (s.map (Value.int .u32)).toArray = #[.int .u32 s0, .int .u32 s1, .int .u32 s2, .int .u32 s3, .int .u32 s4, .int .u32 s5, .int .u32 s6, .int .u32 s7] := by rw [es]; rfl
  clear es
  rw [E]
  have HE := Lib.hid E; clear E
  have Hl := Lib.hid hs; clear hs
  go_enter Tryd.func15, Tryd.ntmps15
  go_wp2_with (refine wpList_load_row rfl 34 (.tmp 3) rfl (w.heap.size + 1) rfl 34 bs (0, 0) _ (heap_under (heap_under (heap_at (by simp)))) Tryd.underlying34 rfl Z34.out ?_)
  refine (words18 B bs _ Hn.out Hc.out Hb.out).mono ?_
  rintro e w1 ⟨rfl, hb1⟩
  have f0 := row_of_block s HE.out.symm Hl.out ((hb1.block w.heap.size (by simp; omega)).trans (heap_under (heap_under (heap_under (heap_at rfl)))))
  have f2 : w1.rowIs (w.heap.size + 2) 33 8 (fun _ => .int .u32 0) := World.rowIs.of_block (zeros_row (t := 33) (n := 8) (z := .int .u32 0) (w := (w.alloc (.cells #[] 0)).alloc (.cells #[] 0)) (by simp) rfl) ((hb1.block (w.heap.size + 2) (by simp)).trans ((heap_under (heap_at (by simp))).trans (heap_at (by simp)).symm))
  have f3 := row_of_block s HE.out.symm Hl.out ((hb1.block (w.heap.size + 3) (by simp)).trans (heap_at (by simp)))
  have hs1 : w.heap.size + 4 ≤ w1.heap.size := by have := hb1.size; simp at this; omega
  have hbl : Below w.heap.size w w1 := ((((((Below.refl _ _).alloc (Nat.le_refl _) _).alloc (by simp) _).alloc (by simp; omega) _).alloc (by simp; omega) _)).trans (hb1.mono (by simp; omega))
  clear hb1
  have hW : ∀ i, i < 64 → ((ws B 64).map (Value.int .u32)).toArray[i]? = some (.int .u32 (gI (ws B 64) i)) := fun i hi => by
    have : i < (ws B 64).length := by rw [ws_length]; exact hi
    simp [gI, List.getElem?_eq_getElem this]
  have HW := Lib.hid hW; clear hW
  have gW := gI_range B 64
  have GW := Lib.hid gW; clear gW
  generalize (((ws B 64).map (Value.int .u32)).toArray) = out at HW ⊢
  go_wp2
  go_loopw [20] (fun i wr => ∃ k : Nat, k ≤ 64 ∧ i = .int .i64 k ∧ w.heap.size + 4 ≤ wr.heap.size ∧ Below w.heap.size w wr ∧ wr.rowIs w.heap.size 33 8 (fun j => .int .u32 (gI s j)) ∧ wr.rowIs (w.heap.size + 2) 33 8 (fun _ => .int .u32 0) ∧ wr.rowIs (w.heap.size + 3) 33 8 (fun j => .int .u32 (gI (rnds (ws B 64) s k) j)))
    (fun i _ => 64 - (intOf i).toNat)
  case atStart => exact ⟨0, by omega, rfl, hs1, hbl, f0, f2, by rw [rnds_zero]; exact f3⟩
  case round =>
    clear f0 f2 f3 hbl hs1
    obtain ⟨k, hk, rfl, hsz, hbl, r0, r2, r3⟩ := hrel
    by_cases hlt : k < 64
    · have hx := fun wx => run_index_arr (P := Tryd.prog) (w := wx) 38 32 64 out .i64 k _ Tryd.underlying38 (fun w => by kernel_rfl) (fun w => by kernel_rfl) hlt (HW.out k hlt)
      have c0 : wr.cell? ⟨w.heap.size + 3, 0, none⟩ = some (.int .u32 (gI (rnds (ws B 64) s k) 0)) := r3.cell (i := 0) (by omega)
      have c1 : wr.cell? ⟨w.heap.size + 3, 1, none⟩ = some (.int .u32 (gI (rnds (ws B 64) s k) 1)) := r3.cell (i := 1) (by omega)
      have c2 : wr.cell? ⟨w.heap.size + 3, 2, none⟩ = some (.int .u32 (gI (rnds (ws B 64) s k) 2)) := r3.cell (i := 2) (by omega)
      have c3 : wr.cell? ⟨w.heap.size + 3, 3, none⟩ = some (.int .u32 (gI (rnds (ws B 64) s k) 3)) := r3.cell (i := 3) (by omega)
      have c4 : wr.cell? ⟨w.heap.size + 3, 4, none⟩ = some (.int .u32 (gI (rnds (ws B 64) s k) 4)) := r3.cell (i := 4) (by omega)
      have c5 : wr.cell? ⟨w.heap.size + 3, 5, none⟩ = some (.int .u32 (gI (rnds (ws B 64) s k) 5)) := r3.cell (i := 5) (by omega)
      have c6 : wr.cell? ⟨w.heap.size + 3, 6, none⟩ = some (.int .u32 (gI (rnds (ws B 64) s k) 6)) := r3.cell (i := 6) (by omega)
      have c7 : wr.cell? ⟨w.heap.size + 3, 7, none⟩ = some (.int .u32 (gI (rnds (ws B 64) s k) 7)) := r3.cell (i := 7) (by omega)
      have ck : wr.cell? ⟨0, k, none⟩ = some (.int .u32 (gI kk k)) := (hbl.cell (by exact hk0)).trans (Hk.out k hlt)
      have g4 := rnds_range (ws B 64) s Hr.out k 4
      have g0 := rnds_range (ws B 64) s Hr.out k 0
      go_wp2_with fail
      go_quiet (fail)
      go_wp2_with fail
      go_quiet ((go_at_call 19; first | exact quiet_next (rot_bits _ _ _ (by omega) (by omega) (by omega) (by omega)) | exact quiet_first (rot_bits _ _ _ (by omega) (by omega) (by omega) (by omega))))
      have f0 := r3.frozen 0
      have f1 := r3.frozen 1
      have f2 := r3.frozen 2
      have f3 := r3.frozen 3
      have f4 := r3.frozen 4
      have f5 := r3.frozen 5
      have f6 := r3.frozen 6
      have f7 := r3.frozen 7
      go_wp2_with (go_at_call 19; refine (rot_bits _ _ _ (by omega) (by omega) (by omega) (by omega)).mono ?_; rintro e w' ⟨rfl, rfl⟩)
      go_roundw
      case rel =>
        refine ⟨k + 1, by omega, by go_num, by simpa using hsz, ?_, ?_, ?_, ?_⟩
        · exact ((((((((below_draws hbl _).setCell (by simp; omega) _).setCell (by simp; omega) _).setCell (by simp; omega) _).setCell (by simp; omega) _).setCell (by simp; omega) _).setCell (by simp; omega) _).setCell (by simp; omega) _).setCell (by simp; omega) _
        · exact (((((((((row_draws r0 _).setOther (by simp; omega) _).setOther (by simp; omega) _).setOther (by simp; omega) _).setOther (by simp; omega) _).setOther (by simp; omega) _).setOther (by simp; omega) _).setOther (by simp; omega) _).setOther (by simp; omega) _)
        · exact (((((((((row_draws r2 _).setOther (by simp) _).setOther (by simp) _).setOther (by simp) _).setOther (by simp) _).setOther (by simp) _).setOther (by simp) _).setOther (by simp) _).setOther (by simp) _)
        · rw [rnds_succ]
          refine ((((((((((row_draws r3 _).set 0 _).set 1 _).set 2 _).set 3 _).set 4 _).set 5 _).set 6 _).set 7 _)).congr (fun j hj => ?_)
          rcases j with _ | _ | _ | _ | _ | _ | _ | _ | j
          all_goals first | rfl | omega
      case measure => simp [intOf]; omega
    · have e4 : k = 64 := by omega
      have r3' : wr.rowIs (w.heap.size + 3) 33 8 (fun j => .int .u32 (gI (rnds (ws B 64) s 64) j)) := e4 ▸ r3
      clear r3 e4
      go_wp2_with fail
      go_loopw [97] (fun i wr => ∃ m : Nat, m ≤ 8 ∧ i = .int .i64 m ∧ w.heap.size + 4 ≤ wr.heap.size ∧ Below w.heap.size w wr ∧ wr.rowIs w.heap.size 33 8 (fun j => .int .u32 (gI s j)) ∧ wr.rowIs (w.heap.size + 2) 33 8 (fun _ => .int .u32 0) ∧ wr.rowIs (w.heap.size + 3) 33 8 (adding (rnds (ws B 64) s 64) s m))
        (fun i _ => 8 - (intOf i).toNat)
      case atStart => exact ⟨0, by omega, rfl, hsz, hbl, r0, r2, r3'.congr (fun j _ => (adding_zero _ _ j).symm)⟩
      case round =>
        clear hsz hbl r0 r2 r3'
        obtain ⟨m, hm, rfl, hsz, hbl, r0, r2, r3⟩ := hrel
        by_cases hlm : m < 8
        · have cb : wr.cell? ⟨w.heap.size, m, none⟩ = some (.int .u32 (gI s m)) := r0.cell hlm
          have cs : wr.cell? ⟨w.heap.size + 3, m, none⟩ = some (.int .u32 (gI (rnds (ws B 64) s 64) m)) := by rw [r3.cell hlm, adding_self]
          have ff := r3.frozen m
          have q0 : (m : Int) < 8 := by omega
          go_wp2_with fail
          go_region
          clear cb cs ff q0
          go_wp2
          go_roundw
          case rel =>
            refine ⟨m + 1, by omega, by go_num, by simpa using hsz, (hbl.setCell (by simp; omega) _).drew, (r0.setOther (by simp; omega) _).drew, (r2.setOther (by simp) _).drew, ((r3.set m _).congr (fun j _ => ?_)).drew⟩
            exact adding_succ _ _ m j hlm
          case measure => simp [intOf]; omega
        · have e4 : m = 8 := by omega
          have r3' : wr.rowIs (w.heap.size + 3) 33 8 (fun j => .int .u32 (gI (blockI B s) j)) := (e4 ▸ r3 : wr.rowIs (w.heap.size + 3) 33 8 (adding (rnds (ws B 64) s 64) s 8)).congr (fun j hj => by rw [blockI_eq]; exact adding_all _ _ j hj)
          clear r3 e4
          have c0 : wr.cell? ⟨w.heap.size + 3, 0, none⟩ = some (.int .u32 (gI (blockI B s) 0)) := r3'.cell (i := 0) (by omega)
          have c1 : wr.cell? ⟨w.heap.size + 3, 1, none⟩ = some (.int .u32 (gI (blockI B s) 1)) := r3'.cell (i := 1) (by omega)
          have c2 : wr.cell? ⟨w.heap.size + 3, 2, none⟩ = some (.int .u32 (gI (blockI B s) 2)) := r3'.cell (i := 2) (by omega)
          have c3 : wr.cell? ⟨w.heap.size + 3, 3, none⟩ = some (.int .u32 (gI (blockI B s) 3)) := r3'.cell (i := 3) (by omega)
          have c4 : wr.cell? ⟨w.heap.size + 3, 4, none⟩ = some (.int .u32 (gI (blockI B s) 4)) := r3'.cell (i := 4) (by omega)
          have c5 : wr.cell? ⟨w.heap.size + 3, 5, none⟩ = some (.int .u32 (gI (blockI B s) 5)) := r3'.cell (i := 5) (by omega)
          have c6 : wr.cell? ⟨w.heap.size + 3, 6, none⟩ = some (.int .u32 (gI (blockI B s) 6)) := r3'.cell (i := 6) (by omega)
          have c7 : wr.cell? ⟨w.heap.size + 3, 7, none⟩ = some (.int .u32 (gI (blockI B s) 7)) := r3'.cell (i := 7) (by omega)
          have d0 : wr.cell? ⟨w.heap.size + 2, 0, none⟩ = some (.int .u32 0) := r2.cell (i := 0) (by omega)
          have f0 := r2.frozen 0
          have d1 : wr.cell? ⟨w.heap.size + 2, 1, none⟩ = some (.int .u32 0) := r2.cell (i := 1) (by omega)
          have f1 := r2.frozen 1
          have d2 : wr.cell? ⟨w.heap.size + 2, 2, none⟩ = some (.int .u32 0) := r2.cell (i := 2) (by omega)
          have f2 := r2.frozen 2
          have d3 : wr.cell? ⟨w.heap.size + 2, 3, none⟩ = some (.int .u32 0) := r2.cell (i := 3) (by omega)
          have f3 := r2.frozen 3
          have d4 : wr.cell? ⟨w.heap.size + 2, 4, none⟩ = some (.int .u32 0) := r2.cell (i := 4) (by omega)
          have f4 := r2.frozen 4
          have d5 : wr.cell? ⟨w.heap.size + 2, 5, none⟩ = some (.int .u32 0) := r2.cell (i := 5) (by omega)
          have f5 := r2.frozen 5
          have d6 : wr.cell? ⟨w.heap.size + 2, 6, none⟩ = some (.int .u32 0) := r2.cell (i := 6) (by omega)
          have f6 := r2.frozen 6
          have d7 : wr.cell? ⟨w.heap.size + 2, 7, none⟩ = some (.int .u32 0) := r2.cell (i := 7) (by omega)
          have f7 := r2.frozen 7
          have HB : ∀ R : List Int, blockI B s = R → R.length = 8 → (R.map (Value.int .u32)).toArray = #[.int .u32 (gI R 0), .int .u32 (gI R 1), .int .u32 (gI R 2), .int .u32 (gI R 3), .int .u32 (gI R 4), .int .u32 (gI R 5), .int .u32 (gI R 6), .int .u32 (gI R 7)] := by
            intro R _ hR
            match R, hR with
            | [a0, a1, a2, a3, a4, a5, a6, a7], _ => rfl
          have HB' := HB _ rfl (blockI_length B s)
          clear HB r3'
          have HB2 := Lib.hid HB'; clear HB'
          go_wp2
          refine bodyPost_ret (v := .agg #[.int .u32 (gI (blockI B s) 0), .int .u32 (gI (blockI B s) 1), .int .u32 (gI (blockI B s) 2), .int .u32 (gI (blockI B s) 3), .int .u32 (gI (blockI B s) 4), .int .u32 (gI (blockI B s) 5), .int .u32 (gI (blockI B s) 6), .int .u32 (gI (blockI B s) 7)]) (by simp [results, Tryd.results15, go_sem, d0, d1, d2, d3, d4, d5, d6, d7]) rfl ⟨?_, ?_⟩
          · rw [HB2.out]
          · exact ((((((((hbl.setCell (by simp; omega) _).setCell (by simp; omega) _).setCell (by simp; omega) _).setCell (by simp; omega) _).setCell (by simp; omega) _).setCell (by simp; omega) _).setCell (by simp; omega) _).setCell (by simp; omega) _)
end Go.Proofs.YtmacnffbainepaaDoor
