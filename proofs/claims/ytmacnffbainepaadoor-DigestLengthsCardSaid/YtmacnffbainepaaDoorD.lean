/- The rounds of SHA-256 over one block, in the reference's text. -/
import Derived.Test.YtmacnffbainepaaDoorE
import Derived.Deep.RegionHeld3
namespace Go.Proofs.YtmacnffbainepaaDoor
open Go.RowKit
attribute [local irreducible] ws rnds blockI
set_option maxRecDepth 100000 in
set_option maxHeartbeats 1000000 in
theorem block17 (B : Nat → Int) (s : List Int) (b off cap : Nat) (w : World) (hc : ∀ i, i < 64 → w.cell? ⟨b, off + i, none⟩ = some (.int .u8 (B i))) (hb : ∀ i, 0 ≤ B i ∧ B i < 256)
    (hs : s.length = 8) (hr : ∀ i, 0 ≤ gI s i ∧ gI s i < 4294967296) :
    Calls Tryd.prog 17 #[.agg (s.map (Value.int .u32)).toArray, .slice (some ⟨b, off, none⟩) 64 cap] w fun e w' => e = .returned (.agg ((blockI B s).map (Value.int .u32)).toArray) ∧ Below w.heap.size w w' := by
  have hbs : b < w.heap.size := by have := hc 0 (by omega); exact block_lt_of_cell this
  have Hb := Lib.hid hb; clear hb
  have Hc := Lib.hid hc; clear hc
  have Hr := Lib.hid hr; clear hr
  obtain ⟨s0, s1, s2, s3, s4, s5, s6, s7, es⟩ : ∃ s0 s1 s2 s3 s4 s5 s6 s7 : Int, s = [s0, s1, s2, s3, s4, s5, s6, s7] := by
    match s, hs with
    | [s0, s1, s2, s3, s4, s5, s6, s7], _ => exact ⟨_, _, _, _, _, _, _, _, rfl⟩
  have E : (s.map (Value.int .u32)).toArray = #[.int .u32 s0, .int .u32 s1, .int .u32 s2, .int .u32 s3, .int .u32 s4, .int .u32 s5, .int .u32 s6, .int .u32 s7] := by rw [es]; rfl
  clear es
  rw [E]
  have HE := Lib.hid E; clear E
  have Hl := Lib.hid hs; clear hs
  go_enter Tryd.func17, Tryd.ntmps17
  go_wp2_with fail
  refine (words20 B b off cap _ ?_ Hb.out).mono ?_
  · intro i hi
    rw [World.cell?_alloc_lt _ _ _ (by simp <;> omega), World.cell?_alloc_lt _ _ _ (by exact hbs)]
    exact Hc.out i hi
  rintro e w1 ⟨rfl, hb1⟩
  have f0 := row_of_block s HE.out.symm Hl.out ((hb1.block w.heap.size (by simp <;> omega)).trans (heap_under (heap_at rfl)))
  have f1 : w1.rowIs (w.heap.size + 1) 33 8 (fun _ => .int .u32 0) := World.rowIs.of_block (zeros_row (t := 33) (n := 8) (z := .int .u32 0) (w := (w.alloc (.cells #[] 0))) (by simp) rfl) ((hb1.block (w.heap.size + 1) (by simp)).trans ((heap_at (by simp)).trans (heap_at (by simp)).symm))
  have hs1 : w.heap.size + 2 ≤ w1.heap.size := by have := hb1.size; simp at this; omega
  have hbl : Below w.heap.size w w1 := ((((Below.refl _ _).alloc (Nat.le_refl _) _).alloc (by simp) _)).trans (hb1.mono (by simp <;> omega))
  clear hb1
  have hW : ∀ i, i < 64 → ((ws B 64).map (Value.int .u32)).toArray[i]? = some (.int .u32 (gI (ws B 64) i)) := fun i hi => by
    have : i < (ws B 64).length := by rw [ws_length]; exact hi
    simp [gI, List.getElem?_eq_getElem this]
  have HW := Lib.hid hW; clear hW
  have gW := gI_range B 64
  have GW := Lib.hid gW; clear gW
  have hsz : ((ws B 64).map (Value.int .u32)).toArray.size = 64 := by simp [ws_length]
  have hall := ints_one .u32 (ws B 64)
  have HS := Lib.hid hsz; have HA := Lib.hid hall
  clear hsz hall
  generalize (((ws B 64).map (Value.int .u32)).toArray) = out at HW HS HA ⊢
  have hst := fun (cs : Array Value) (h : cs.size = 64) => store_whole (P := Tryd.prog) (w := w1) w1.heap.size 38 cs out rfl (h.trans HS.out.symm) HA.out
  have hc0 : ∀ cs : Array Value, ((w1.alloc (.cells cs 38)).setRow w1.heap.size out).cell? ⟨w.heap.size, 0, none⟩ = some (.int .u32 (gI s 0)) := fun cs => (cell_setRow_other _ _ _ _ (by simp <;> omega)).trans ((World.cell?_alloc_lt _ _ _ (by simp <;> omega)).trans (f0.cell (i := 0) (by omega)))
  have hc1 : ∀ cs : Array Value, ((w1.alloc (.cells cs 38)).setRow w1.heap.size out).cell? ⟨w.heap.size, 1, none⟩ = some (.int .u32 (gI s 1)) := fun cs => (cell_setRow_other _ _ _ _ (by simp <;> omega)).trans ((World.cell?_alloc_lt _ _ _ (by simp <;> omega)).trans (f0.cell (i := 1) (by omega)))
  have hc2 : ∀ cs : Array Value, ((w1.alloc (.cells cs 38)).setRow w1.heap.size out).cell? ⟨w.heap.size, 2, none⟩ = some (.int .u32 (gI s 2)) := fun cs => (cell_setRow_other _ _ _ _ (by simp <;> omega)).trans ((World.cell?_alloc_lt _ _ _ (by simp <;> omega)).trans (f0.cell (i := 2) (by omega)))
  have hc3 : ∀ cs : Array Value, ((w1.alloc (.cells cs 38)).setRow w1.heap.size out).cell? ⟨w.heap.size, 3, none⟩ = some (.int .u32 (gI s 3)) := fun cs => (cell_setRow_other _ _ _ _ (by simp <;> omega)).trans ((World.cell?_alloc_lt _ _ _ (by simp <;> omega)).trans (f0.cell (i := 3) (by omega)))
  have hc4 : ∀ cs : Array Value, ((w1.alloc (.cells cs 38)).setRow w1.heap.size out).cell? ⟨w.heap.size, 4, none⟩ = some (.int .u32 (gI s 4)) := fun cs => (cell_setRow_other _ _ _ _ (by simp <;> omega)).trans ((World.cell?_alloc_lt _ _ _ (by simp <;> omega)).trans (f0.cell (i := 4) (by omega)))
  have hc5 : ∀ cs : Array Value, ((w1.alloc (.cells cs 38)).setRow w1.heap.size out).cell? ⟨w.heap.size, 5, none⟩ = some (.int .u32 (gI s 5)) := fun cs => (cell_setRow_other _ _ _ _ (by simp <;> omega)).trans ((World.cell?_alloc_lt _ _ _ (by simp <;> omega)).trans (f0.cell (i := 5) (by omega)))
  have hc6 : ∀ cs : Array Value, ((w1.alloc (.cells cs 38)).setRow w1.heap.size out).cell? ⟨w.heap.size, 6, none⟩ = some (.int .u32 (gI s 6)) := fun cs => (cell_setRow_other _ _ _ _ (by simp <;> omega)).trans ((World.cell?_alloc_lt _ _ _ (by simp <;> omega)).trans (f0.cell (i := 6) (by omega)))
  have hc7 : ∀ cs : Array Value, ((w1.alloc (.cells cs 38)).setRow w1.heap.size out).cell? ⟨w.heap.size, 7, none⟩ = some (.int .u32 (gI s 7)) := fun cs => (cell_setRow_other _ _ _ _ (by simp <;> omega)).trans ((World.cell?_alloc_lt _ _ _ (by simp <;> omega)).trans (f0.cell (i := 7) (by omega)))
  have hsr : ∀ cs : Array Value, ((w1.alloc (.cells cs 38)).setRow w1.heap.size out).heap.size = w1.heap.size + 1 := fun cs => by simp
  go_wp2
  go_loopw [7] (fun i wr => ∃ k : Nat, k ≤ 64 ∧ i = .int .i64 k ∧ w1.heap.size + 2 ≤ wr.heap.size ∧ Below w.heap.size w wr ∧ wr.rowIs w.heap.size 33 8 (fun j => .int .u32 (gI s j)) ∧ wr.rowIs (w.heap.size + 1) 33 8 (fun _ => .int .u32 0) ∧ wr.rowIs w1.heap.size 38 64 (fun j => .int .u32 (gI (ws B 64) j)) ∧ wr.rowIs (w1.heap.size + 1) 33 8 (fun j => .int .u32 (gI (rnds (ws B 64) s k) j)))
    (fun i _ => 64 - (intOf i).toNat)
  case atStart =>
    have hold : ∀ (cs : Array Value) (o : Obj) (i : Nat), i < w1.heap.size → ((((w1.alloc (.cells cs 38)).setRow w1.heap.size out).alloc o).heap[i]? = w1.heap[i]?) := fun cs o i hi => (Deep.blk_alloc_lt _ _ _ (by simp <;> omega)).trans ((setRow_other _ _ _ _ (by omega)).trans (Deep.blk_alloc_lt _ _ _ hi))
    refine ⟨0, by omega, rfl, by simp, ?_, f0.of_block (hold _ _ _ (by omega)), f1.of_block (hold _ _ _ (by omega)), ⟨out, ?_, HS.out, HW.out⟩, ?_⟩
    · exact hbl.trans ⟨rfl, rfl, rfl, by simp <;> omega, fun i hi => hold _ _ i (by omega)⟩
    · exact heap_under (setRow_heap _ _ _ _ _ _ (heap_at rfl))
    · rw [rnds_zero]
      refine (row_of_block (k := .u32) (n := 8) [gI s 0, gI s 1, gI s 2, gI s 3, gI s 4, gI s 5, gI s 6, gI s 7] rfl rfl (heap_at (by simp))).congr (fun j hj => ?_)
      rcases j with _ | _ | _ | _ | _ | _ | _ | _ | j
      all_goals first | rfl | omega
  case round =>
    clear hc0 hc1 hc2 hc3 hc4 hc5 hc6 hc7 hsr hst f0 f1 hbl
    obtain ⟨k, hk, rfl, hsz, hbl, r0, r1, rw, r3⟩ := hrel
    by_cases hlt : k < 64
    · have g4 := rnds_range (ws B 64) s Hr.out k 4
      have g0 := rnds_range (ws B 64) s Hr.out k 0
      have c0 : wr.cell? ⟨w1.heap.size + 1, 0, none⟩ = some (.int .u32 (gI (rnds (ws B 64) s k) 0)) := r3.cell (i := 0) (by omega)
      have c4 : wr.cell? ⟨w1.heap.size + 1, 4, none⟩ = some (.int .u32 (gI (rnds (ws B 64) s k) 4)) := r3.cell (i := 4) (by omega)
      go_wp2_with fail
      go_quiet (fail)
      have d5 : (wr.drewN nq).cell? ⟨w1.heap.size + 1, 5, none⟩ = some (.int .u32 (gI (rnds (ws B 64) s k) 5)) := r3.cell (i := 5) (by omega)
      have d6 : (wr.drewN nq).cell? ⟨w1.heap.size + 1, 6, none⟩ = some (.int .u32 (gI (rnds (ws B 64) s k) 6)) := r3.cell (i := 6) (by omega)
      have d7 : (wr.drewN nq).cell? ⟨w1.heap.size + 1, 7, none⟩ = some (.int .u32 (gI (rnds (ws B 64) s k) 7)) := r3.cell (i := 7) (by omega)
      have dw : (wr.drewN nq).cell? ⟨w1.heap.size, k, none⟩ = some (.int .u32 (gI (ws B 64) k)) := rw.cell hlt
      have ds : w1.heap.size + 2 ≤ (wr.drewN nq).heap.size := hsz
      have r0' : (wr.drewN nq).rowIs _ _ _ _ := r0
      have r1' : (wr.drewN nq).rowIs _ _ _ _ := r1
      have rw' : (wr.drewN nq).rowIs _ _ _ _ := rw
      have r3' : (wr.drewN nq).rowIs _ _ _ _ := r3
      have hbl' := below_draws hbl nq
      clear c0 c4 hsz r0 r1 rw r3 hbl
      go_wp2_with fail
      generalize wr.drewN nq = w2 at *
      have kn : (k : Int) < 64 := by omega
      go_region_held3 (fun w' => Below w2.heap.size w2 w' ∧ w'.cell? ⟨w1.heap.size + 1, 5, none⟩ = some (.int .u32 (gI (rnds (ws B 64) s k) 5)) ∧ w'.cell? ⟨w1.heap.size + 1, 6, none⟩ = some (.int .u32 (gI (rnds (ws B 64) s k) 6)) ∧ w'.cell? ⟨w1.heap.size + 1, 7, none⟩ = some (.int .u32 (gI (rnds (ws B 64) s k) 7)) ∧ w'.cell? ⟨w1.heap.size, k, none⟩ = some (.int .u32 (gI (ws B 64) k)))
        (first | exact ⟨(Below.refl _ _).drew, d5, d6, d7, dw⟩ | exact ⟨((Below.refl _ _).drew).trans hb3, (hb3.cell (by simp <;> omega)).trans d5, (hb3.cell (by simp <;> omega)).trans d6, (hb3.cell (by simp <;> omega)).trans d7, (hb3.cell (by simp <;> omega)).trans dw⟩)
        (first | (go_at_call 21; refine (rot_ref _ _ _ (by omega) (by omega) (by omega) (by omega)).mono ?_; rintro e w' ⟨rfl, rfl⟩) | (go_at_call 22; refine (const22 k _ hlt).mono ?_; rintro e w3 ⟨rfl, hb3⟩))
      have e1 : ∀ (r : List Int) (x y : Int), IntKind.u32.wrap (IntKind.u32.wrap (IntKind.u32.wrap (IntKind.u32.wrap (gI r 7 + bits .xor .u32 (bits .xor .u32 (rotI (gI r 4) 6) (rotI (gI r 4) 11)) (rotI (gI r 4) 25)) + bits .xor .u32 (bits .and .u32 (gI r 4) (gI r 5)) (bits .and .u32 (bits .xor .u32 IntKind.u32.max (gI r 4)) (gI r 6))) + x) + y) = t1I r x y % 4294967296 := by
        intro r x y
        unfold t1I
        simp only [IntKind.wrap_u32']
        omega
      rw [e1]
      clear e1
      have t3 : ∀ (h : Nat → Value) (bb tt n : Nat), bb < w2.heap.size → w2.rowIs bb tt n h → w3.rowIs bb tt n h := fun h bb tt n hlt hr => hr.of_block (hb3.block _ (by simpa using hlt))
      have q0 := t3 _ _ _ _ (by omega) r0'
      have q1 := t3 _ _ _ _ (by omega) r1'
      have qw := t3 _ _ _ _ (by omega) rw'
      have q3 := t3 _ _ _ _ (by omega) r3'
      have hbl3 : Below w.heap.size w w3 := (hbl'.drew).trans (hb3.mono (by simp <;> omega))
      have hsz3 : w1.heap.size + 2 ≤ w3.heap.size := by have := hb3.size; simp at this; omega
      clear t3 hb3 r0' r1' rw' r3' hbl' ds d5 d6 d7 dw
      have c0 : w3.cell? ⟨w1.heap.size + 1, 0, none⟩ = some (.int .u32 (gI (rnds (ws B 64) s k) 0)) := q3.cell (i := 0) (by omega)
      have c1 : w3.cell? ⟨w1.heap.size + 1, 1, none⟩ = some (.int .u32 (gI (rnds (ws B 64) s k) 1)) := q3.cell (i := 1) (by omega)
      have c2 : w3.cell? ⟨w1.heap.size + 1, 2, none⟩ = some (.int .u32 (gI (rnds (ws B 64) s k) 2)) := q3.cell (i := 2) (by omega)
      go_wp2_with fail
      go_quiet ((go_at_call 21; first | exact quiet_next (rot_ref _ _ _ (by omega) (by omega) (by omega) (by omega)) | exact quiet_first (rot_ref _ _ _ (by omega) (by omega) (by omega) (by omega))))
      have c3 : w3.cell? ⟨w1.heap.size + 1, 3, none⟩ = some (.int .u32 (gI (rnds (ws B 64) s k) 3)) := q3.cell (i := 3) (by omega)
      have c4 : w3.cell? ⟨w1.heap.size + 1, 4, none⟩ = some (.int .u32 (gI (rnds (ws B 64) s k) 4)) := q3.cell (i := 4) (by omega)
      have c5 : w3.cell? ⟨w1.heap.size + 1, 5, none⟩ = some (.int .u32 (gI (rnds (ws B 64) s k) 5)) := q3.cell (i := 5) (by omega)
      have c6 : w3.cell? ⟨w1.heap.size + 1, 6, none⟩ = some (.int .u32 (gI (rnds (ws B 64) s k) 6)) := q3.cell (i := 6) (by omega)
      have c7 : w3.cell? ⟨w1.heap.size + 1, 7, none⟩ = some (.int .u32 (gI (rnds (ws B 64) s k) 7)) := q3.cell (i := 7) (by omega)
      have f0 := q3.frozen 0
      have f1 := q3.frozen 1
      have f2 := q3.frozen 2
      have f3 := q3.frozen 3
      have f4 := q3.frozen 4
      have f5 := q3.frozen 5
      have f6 := q3.frozen 6
      have f7 := q3.frozen 7
      go_wp2
      go_roundw
      case rel =>
        refine ⟨k + 1, by omega, by go_num, by simpa using hsz3, ?_, ?_, ?_, ?_, ?_⟩
        · exact ((((((((below_draws hbl3 _).setCell (by simp <;> omega) _).setCell (by simp <;> omega) _).setCell (by simp <;> omega) _).setCell (by simp <;> omega) _).setCell (by simp <;> omega) _).setCell (by simp <;> omega) _).setCell (by simp <;> omega) _).setCell (by simp <;> omega) _
        · exact (((((((((row_draws q0 _).setOther (by simp <;> omega) _).setOther (by simp <;> omega) _).setOther (by simp <;> omega) _).setOther (by simp <;> omega) _).setOther (by simp <;> omega) _).setOther (by simp <;> omega) _).setOther (by simp <;> omega) _).setOther (by simp <;> omega) _)
        · exact (((((((((row_draws q1 _).setOther (by simp <;> omega) _).setOther (by simp <;> omega) _).setOther (by simp <;> omega) _).setOther (by simp <;> omega) _).setOther (by simp <;> omega) _).setOther (by simp <;> omega) _).setOther (by simp <;> omega) _).setOther (by simp <;> omega) _)
        · exact (((((((((row_draws qw _).setOther (by simp) _).setOther (by simp) _).setOther (by simp) _).setOther (by simp) _).setOther (by simp) _).setOther (by simp) _).setOther (by simp) _).setOther (by simp) _)
        · rw [rnds_succ]
          refine ((((((((((row_draws q3 _).set 0 _).set 1 _).set 2 _).set 3 _).set 4 _).set 5 _).set 6 _).set 7 _)).congr (fun j hj => ?_)
          rcases j with _ | _ | _ | _ | _ | _ | _ | _ | j
          all_goals first | rfl | omega
      case measure => simp [intOf]; omega
    · have e4 : k = 64 := by omega
      have r3' : wr.rowIs (w1.heap.size + 1) 33 8 (fun j => .int .u32 (gI (rnds (ws B 64) s 64) j)) := e4 ▸ r3
      clear r3 e4 rw
      go_wp2_with fail
      go_loopw [12] (fun i wr => ∃ m : Nat, m ≤ 8 ∧ i = .int .i64 m ∧ w1.heap.size + 2 ≤ wr.heap.size ∧ Below w.heap.size w wr ∧ wr.rowIs w.heap.size 33 8 (fun j => .int .u32 (gI s j)) ∧ wr.rowIs (w.heap.size + 1) 33 8 (fun _ => .int .u32 0) ∧ wr.rowIs (w1.heap.size + 1) 33 8 (adding (rnds (ws B 64) s 64) s m))
        (fun i _ => 8 - (intOf i).toNat)
      case atStart => exact ⟨0, by omega, rfl, hsz, hbl, r0, r1, r3'.congr (fun j _ => (adding_zero _ _ j).symm)⟩
      case round =>
        clear hsz hbl r0 r1 r3'
        obtain ⟨m, hm, rfl, hsz, hbl, r0, r1, r3⟩ := hrel
        by_cases hlm : m < 8
        · have cb : wr.cell? ⟨w.heap.size, m, none⟩ = some (.int .u32 (gI s m)) := r0.cell hlm
          have cs : wr.cell? ⟨w1.heap.size + 1, m, none⟩ = some (.int .u32 (gI (rnds (ws B 64) s 64) m)) := by rw [r3.cell hlm, adding_self]
          have ff := r3.frozen m
          have q0 : (m : Int) < 8 := by omega
          go_wp2_with fail
          go_region
          clear cb cs ff q0
          go_wp2
          go_roundw
          case rel =>
            refine ⟨m + 1, by omega, by go_num, by simpa using hsz, (hbl.setCell (by simp <;> omega) _).drew, (r0.setOther (by simp <;> omega) _).drew, (r1.setOther (by simp <;> omega) _).drew, ((r3.set m _).congr (fun j _ => ?_)).drew⟩
            exact adding_succ _ _ m j hlm
          case measure => simp [intOf]; omega
        · have e4 : m = 8 := by omega
          have r3' : wr.rowIs (w1.heap.size + 1) 33 8 (fun j => .int .u32 (gI (blockI B s) j)) := (e4 ▸ r3 : wr.rowIs (w1.heap.size + 1) 33 8 (adding (rnds (ws B 64) s 64) s 8)).congr (fun j hj => by rw [blockI_eq]; exact adding_all _ _ j hj)
          clear r3 e4
          have c0 : wr.cell? ⟨w1.heap.size + 1, 0, none⟩ = some (.int .u32 (gI (blockI B s) 0)) := r3'.cell (i := 0) (by omega)
          have c1 : wr.cell? ⟨w1.heap.size + 1, 1, none⟩ = some (.int .u32 (gI (blockI B s) 1)) := r3'.cell (i := 1) (by omega)
          have c2 : wr.cell? ⟨w1.heap.size + 1, 2, none⟩ = some (.int .u32 (gI (blockI B s) 2)) := r3'.cell (i := 2) (by omega)
          have c3 : wr.cell? ⟨w1.heap.size + 1, 3, none⟩ = some (.int .u32 (gI (blockI B s) 3)) := r3'.cell (i := 3) (by omega)
          have c4 : wr.cell? ⟨w1.heap.size + 1, 4, none⟩ = some (.int .u32 (gI (blockI B s) 4)) := r3'.cell (i := 4) (by omega)
          have c5 : wr.cell? ⟨w1.heap.size + 1, 5, none⟩ = some (.int .u32 (gI (blockI B s) 5)) := r3'.cell (i := 5) (by omega)
          have c6 : wr.cell? ⟨w1.heap.size + 1, 6, none⟩ = some (.int .u32 (gI (blockI B s) 6)) := r3'.cell (i := 6) (by omega)
          have c7 : wr.cell? ⟨w1.heap.size + 1, 7, none⟩ = some (.int .u32 (gI (blockI B s) 7)) := r3'.cell (i := 7) (by omega)
          have d0 : wr.cell? ⟨w.heap.size + 1, 0, none⟩ = some (.int .u32 0) := r1.cell (i := 0) (by omega)
          have f0 := r1.frozen 0
          have d1 : wr.cell? ⟨w.heap.size + 1, 1, none⟩ = some (.int .u32 0) := r1.cell (i := 1) (by omega)
          have f1 := r1.frozen 1
          have d2 : wr.cell? ⟨w.heap.size + 1, 2, none⟩ = some (.int .u32 0) := r1.cell (i := 2) (by omega)
          have f2 := r1.frozen 2
          have d3 : wr.cell? ⟨w.heap.size + 1, 3, none⟩ = some (.int .u32 0) := r1.cell (i := 3) (by omega)
          have f3 := r1.frozen 3
          have d4 : wr.cell? ⟨w.heap.size + 1, 4, none⟩ = some (.int .u32 0) := r1.cell (i := 4) (by omega)
          have f4 := r1.frozen 4
          have d5 : wr.cell? ⟨w.heap.size + 1, 5, none⟩ = some (.int .u32 0) := r1.cell (i := 5) (by omega)
          have f5 := r1.frozen 5
          have d6 : wr.cell? ⟨w.heap.size + 1, 6, none⟩ = some (.int .u32 0) := r1.cell (i := 6) (by omega)
          have f6 := r1.frozen 6
          have d7 : wr.cell? ⟨w.heap.size + 1, 7, none⟩ = some (.int .u32 0) := r1.cell (i := 7) (by omega)
          have f7 := r1.frozen 7
          have HB : ∀ R : List Int, blockI B s = R → R.length = 8 → (R.map (Value.int .u32)).toArray = #[.int .u32 (gI R 0), .int .u32 (gI R 1), .int .u32 (gI R 2), .int .u32 (gI R 3), .int .u32 (gI R 4), .int .u32 (gI R 5), .int .u32 (gI R 6), .int .u32 (gI R 7)] := by
            intro R _ hR
            match R, hR with
            | [a0, a1, a2, a3, a4, a5, a6, a7], _ => rfl
          have HB' := HB _ rfl (blockI_length B s)
          clear HB r3'
          have HB2 := Lib.hid HB'; clear HB'
          go_wp2
          refine bodyPost_ret (v := .agg #[.int .u32 (gI (blockI B s) 0), .int .u32 (gI (blockI B s) 1), .int .u32 (gI (blockI B s) 2), .int .u32 (gI (blockI B s) 3), .int .u32 (gI (blockI B s) 4), .int .u32 (gI (blockI B s) 5), .int .u32 (gI (blockI B s) 6), .int .u32 (gI (blockI B s) 7)]) (by simp [results, Tryd.results17, go_sem, d0, d1, d2, d3, d4, d5, d6, d7]) rfl ⟨?_, ?_⟩
          · rw [HB2.out]
          · exact ((((((((hbl.setCell (by simp <;> omega) _).setCell (by simp <;> omega) _).setCell (by simp <;> omega) _).setCell (by simp <;> omega) _).setCell (by simp <;> omega) _).setCell (by simp <;> omega) _).setCell (by simp <;> omega) _).setCell (by simp <;> omega) _)
end Go.Proofs.YtmacnffbainepaaDoor
