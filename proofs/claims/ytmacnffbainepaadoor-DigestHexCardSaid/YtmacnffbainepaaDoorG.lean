/- The hash, in the reference's text. -/
import Derived.Test.YtmacnffbainepaaDoorF
namespace Go.Proofs.YtmacnffbainepaaDoor
open Go.RowKit
attribute [local irreducible] ws rnds blockI wpList Calls Code.wp
def ivI : List Int := [1779033703, 3144134277, 1013904242, 2773480762, 1359893119, 2600822924, 528734635, 1541459225]
def sumTo (M : List Int) : Nat → List Int
  | 0 => ivI
  | q + 1 => blockI (fun j => gI M (64 * q + j)) (sumTo M q)
theorem sumTo_length (M : List Int) (q : Nat) : (sumTo M q).length = 8 := by
  cases q with
  | zero => rfl
  | succ q => exact blockI_length _ _
theorem addI_range (r s : List Int) (i : Nat) : 0 ≤ gI (addI r s) i ∧ gI (addI r s) i < 4294967296 := by
  unfold addI
  rcases i with _ | _ | _ | _ | _ | _ | _ | _ | i <;> simp only [gI_cons0, gI_cons, gI_nil] <;> omega
theorem sumTo_range (M : List Int) (q i : Nat) : 0 ≤ gI (sumTo M q) i ∧ gI (sumTo M q) i < 4294967296 := by
  cases q with
  | zero =>
    unfold sumTo ivI
    rcases i with _ | _ | _ | _ | _ | _ | _ | _ | i <;> simp only [gI_cons0, gI_cons, gI_nil] <;> omega
  | succ q => unfold sumTo; rw [blockI_eq]; exact addI_range _ _ _
/-- the bytes of the first k words -/
def outTo (s : List Int) : Nat → List Int
  | 0 => []
  | k + 1 => outTo s k ++ [gI s k / 16777216 % 256, gI s k / 65536 % 256, gI s k / 256 % 256, gI s k % 256]
theorem outTo_length (s : List Int) (k : Nat) : (outTo s k).length = 4 * k := by
  induction k with
  | zero => rfl
  | succ k ih => simp [outTo, ih]; omega
def sumI (L : List Int) : List Int := outTo (sumTo (msgI L) ((msgI L).length / 64)) 8
theorem sumI_length (L : List Int) : (sumI L).length = 32 := outTo_length _ _
def Bytes (L : List Int) : Prop := ∀ x ∈ L, 0 ≤ x ∧ x < 256
theorem gI_bytes {L : List Int} (h : Bytes L) (i : Nat) : 0 ≤ gI L i ∧ gI L i < 256 := by
  unfold gI
  by_cases hi : i < L.length
  · rw [List.getD_eq_getElem?_getD, List.getElem?_eq_getElem hi]; exact h _ (List.getElem_mem hi)
  · rw [List.getD_eq_getElem?_getD, List.getElem?_eq_none (by omega)]; simp
theorem msgI_bytes {L : List Int} (h : Bytes L) : Bytes (msgI L) := by
  intro x hx
  simp only [msgI, List.mem_append, List.mem_replicate, List.mem_singleton, lenTo, List.mem_map] at hx
  rcases hx with ((hx | rfl) | ⟨_, rfl⟩) | ⟨i, _, rfl⟩
  · exact h x hx
  · omega
  · omega
  · omega
theorem outTo_bytes (s : List Int) (k : Nat) : Bytes (outTo s k) := by
  induction k with
  | zero => intro x hx; cases hx
  | succ k ih =>
    intro x hx
    simp only [outTo, List.mem_append, List.mem_cons, List.not_mem_nil, or_false] at hx
    rcases hx with hx | rfl | rfl | rfl | rfl
    · exact ih x hx
    all_goals omega
theorem msgI_pos (L : List Int) : (msgI L).length ≤ L.length + 200 := by
  have := padN_le L.length
  simp [msgI, lenTo_length]; omega
theorem own_cell {w : World} {base g n c : Nat} {k : IntKind} {e : TypeId} {M : List Int} (h : w.ownsRow base e 1 (.slice (some ⟨g, 0, none⟩) n c) n (ints k M)) (j : Nat) (hj : j < n) : w.cell? ⟨g, j, none⟩ = some (.int k (gI M j)) := by
  have hl : j < M.length := by have := h.1; simp [ints] at this; omega
  rw [h.cellAt j (by omega)]
  simp [ints, gI, List.getElem?_eq_getElem hl]
theorem own_cap {w : World} {base g n c : Nat} {e : TypeId} {size : Nat} {xs : List Value} (h : w.ownsRow base e size (.slice (some ⟨g, 0, none⟩) n c) n xs) : n ≤ c ∧ base ≤ g ∧ g < w.heap.size := by
  rcases h.2 with ⟨h', _⟩ | ⟨g', cap', cur, h', hb, hg, hnc, _⟩
  · simp at h'
  · simp only [Value.slice.injEq, Option.some.injEq, Addr.mk.injEq, and_true, true_and] at h'
    obtain ⟨rfl, rfl⟩ := h'
    exact ⟨hnc, hb, (Array.getElem?_eq_some_iff.1 hg).1⟩
theorem own_same {w w' : World} {base g n c : Nat} {e : TypeId} {size : Nat} {xs : List Value} (h : w.ownsRow base e size (.slice (some ⟨g, 0, none⟩) n c) n xs) (hb : w'.heap[g]? = w.heap[g]?) : w'.ownsRow base e size (.slice (some ⟨g, 0, none⟩) n c) n xs := by
  refine ⟨h.1, ?_⟩
  rcases h.2 with ⟨h', _⟩ | ⟨g', cap', cur, h', hge, hg, r⟩
  · simp at h'
  · simp only [Value.slice.injEq, Option.some.injEq, Addr.mk.injEq, and_true, true_and] at h'
    obtain ⟨rfl, rfl⟩ := h'
    exact .inr ⟨g, c, cur, rfl, hge, by rw [hb]; exact hg, r⟩
theorem agg8 (s : List Int) (hs : s.length = 8) : (s.map (Value.int .u32)).toArray = #[.int .u32 (gI s 0), .int .u32 (gI s 1), .int .u32 (gI s 2), .int .u32 (gI s 3), .int .u32 (gI s 4), .int .u32 (gI s 5), .int .u32 (gI s 6), .int .u32 (gI s 7)] := by
  match s, hs with
  | [a0, a1, a2, a3, a4, a5, a6, a7], _ => rfl
theorem sumTo_succ (M : List Int) (q : Nat) : sumTo M (q + 1) = blockI (fun j => gI M (64 * q + j)) (sumTo M q) := rfl
theorem outTo_succ (s : List Int) (k : Nat) : outTo s (k + 1) = outTo s k ++ [gI s k / 16777216 % 256, gI s k / 65536 % 256, gI s k / 256 % 256, gI s k % 256] := rfl
theorem outTo_zero (s : List Int) : outTo s 0 = [] := rfl
attribute [local irreducible] sumTo outTo
set_option maxRecDepth 100000 in
set_option maxHeartbeats 1000000 in
theorem sum10 (L : List Int) (A : Option Addr) (cap : Nat) (I : Nat → Prop) (w : World) (hI : ∀ k, I k → k < w.heap.size) (hr : Rd w I 1 A L.length (ints .u8 L)) (hn : L.length ≤ 1000000) (hb : Bytes L) :
    Calls Tryd.prog 10 #[.slice A L.length cap] w (NewBytes (sumI L) w) := by
  have hm := msgI_bytes hb
  have HM := Lib.hid (gI_bytes hm)
  have hml := msgI_length L
  have hmp := msgI_pos L
  clear hb hm
  obtain ⟨M, hM⟩ : ∃ M, M = msgI L := ⟨_, rfl⟩
  obtain ⟨n, hnM⟩ : ∃ n, n = M.length := ⟨_, rfl⟩
  rw [← hM] at HM hml hmp
  rw [← hnM] at hml hmp
  have hMM := Lib.hid hM; have HnM := Lib.hid hnM
  clear hM hnM
  have HI := Lib.hid hI; have HR := Lib.hid hr
  clear hI hr
  go_enter Tryd.func10, Tryd.ntmps10
  go_wp2_with fail
  refine (message16 L A cap I _ (fun k hk => by have := HI.out k hk; simp; omega) (HR.out.same (fun k hk => Below.heap_alloc w _ k (HI.out k hk))) hn).mono ?_
  intro e w1 hpost
  obtain ⟨g, c, rfl, hown, hb1⟩ := hpost
  rw [← hMM.out, ← HnM.out] at hown ⊢
  have f0 := row_of_block (t := 33) (n := 8) (k := .u32) ivI rfl rfl ((hb1.block w.heap.size (by simp)).trans (heap_at rfl))
  have hb0 : Below w.heap.size w w1 := ((Below.refl _ _).alloc (Nat.le_refl _) _).trans (hb1.mono (by simp))
  have hown0 : w1.ownsRow (w.heap.size + 1) 5 1 (.slice (some ⟨g, 0, none⟩) n c) n (ints .u8 M) := by simpa using hown
  clear hb1 hown
  have hcap := own_cap hown0
  obtain ⟨q, hq⟩ : ∃ q, n = 64 * q := ⟨n / 64, by omega⟩
  have Hq := Lib.hid hq; clear hq
  go_wp2
  have H64 : ∀ w, (sizeOf 5).run Tryd.prog w = .ok 1 w := fun w => by kernel_rfl
  have HS := Lib.hid H64; clear H64
  have HM0 := Lib.hid hml; clear hml
  go_loopg [5] q (fun j i wr => ∃ k : Nat, k + j = q ∧ i = .int .i64 (64 * (k : Int)) ∧ wr.rowIs w.heap.size 33 8 (fun j => .int .u32 (gI (sumTo M k) j)) ∧ wr.ownsRow (w.heap.size + 1) 5 1 (.slice (some ⟨g, 0, none⟩) n c) n (ints .u8 M) ∧ Below w.heap.size w wr)
  case atStart => exact ⟨0, by omega, rfl, by unfold sumTo; exact f0, hown0, hb0⟩
  case round =>
    clear f0 hown0 hb0
    obtain ⟨k, hkj, rfl, r0, hown, hb⟩ := hrel
    have hgs := own_cap hown
    have Hkj := Lib.hid hkj; have hkq : k ≤ q := by omega
    clear hkj
    by_cases hlt : k < q
    · have hkn : 64 * k + 64 ≤ n := by have := Hq.out; omega
      have hsl := slice_cut (P := Tryd.prog) 22 5 1 Tryd.underlying22 HS.out g 0 n c (64 * k) (64 * k + 64) .i64 .i64 (64 * (k : Int)) (64 * (k : Int) + 64) (by omega) (by omega) (by omega) (by omega) (by omega)
      have e1 : 0 + 64 * k * 1 = 64 * k := by omega
      have e2 : 64 * k + 64 - 64 * k = 64 := by omega
      rw [e1, e2] at hsl
      have ew : IntKind.i64.wrap (64 * (k : Int) + 64) = 64 * (k : Int) + 64 := IntWalk.i64_in _ (by omega)
      clear e1 e2
      have c0 : wr.cell? ⟨w.heap.size, 0, none⟩ = some (.int .u32 (gI (sumTo M k) 0)) := r0.cell (i := 0) (by omega)
      have f0 := r0.frozen 0
      have c1 : wr.cell? ⟨w.heap.size, 1, none⟩ = some (.int .u32 (gI (sumTo M k) 1)) := r0.cell (i := 1) (by omega)
      have f1 := r0.frozen 1
      have c2 : wr.cell? ⟨w.heap.size, 2, none⟩ = some (.int .u32 (gI (sumTo M k) 2)) := r0.cell (i := 2) (by omega)
      have f2 := r0.frozen 2
      have c3 : wr.cell? ⟨w.heap.size, 3, none⟩ = some (.int .u32 (gI (sumTo M k) 3)) := r0.cell (i := 3) (by omega)
      have f3 := r0.frozen 3
      have c4 : wr.cell? ⟨w.heap.size, 4, none⟩ = some (.int .u32 (gI (sumTo M k) 4)) := r0.cell (i := 4) (by omega)
      have f4 := r0.frozen 4
      have c5 : wr.cell? ⟨w.heap.size, 5, none⟩ = some (.int .u32 (gI (sumTo M k) 5)) := r0.cell (i := 5) (by omega)
      have f5 := r0.frozen 5
      have c6 : wr.cell? ⟨w.heap.size, 6, none⟩ = some (.int .u32 (gI (sumTo M k) 6)) := r0.cell (i := 6) (by omega)
      have f6 := r0.frozen 6
      have c7 : wr.cell? ⟨w.heap.size, 7, none⟩ = some (.int .u32 (gI (sumTo M k) 7)) := r0.cell (i := 7) (by omega)
      have f7 := r0.frozen 7
      go_wp2_with fail
      go_still_tail 6, (by kernel_rfl)
      have hS8 := blockI_length (fun j => gI M (64 * k + j)) (sumTo M k)
      have hb17 := block17 (fun j => gI M (64 * k + j)) (sumTo M k) g (0 + 64 * k) (c - 64 * k) wr.drew (fun i hi => by rw [show 0 + 64 * k + i = 64 * k + i from by omega]; exact own_cell hown (64 * k + i) (by omega)) (fun i => HM.out _) (sumTo_length M k) (sumTo_range M k)
      rw [agg8 _ (sumTo_length M k), agg8 _ hS8, show 0 + 64 * k = 64 * k from by omega] at hb17
      have HB17 := Lib.hid hb17
      clear hb17 hS8
      go_wp2_with fail
      refine HB17.out.mono ?_
      rintro e w2 ⟨rfl, hb2⟩
      have hb2' : Below wr.heap.size wr w2 := ((Below.refl _ _).drew).trans hb2
      have hbw : Below w.heap.size w w2 := hb.trans (hb2'.mono hb.size)
      have q0 : w2.rowIs w.heap.size 33 8 (fun j => .int .u32 (gI (sumTo M k) j)) := r0.of_block (hb2'.block _ r0.lt)
      have hown2 : w2.ownsRow (w.heap.size + 1) 5 1 (.slice (some ⟨g, 0, none⟩) n c) n (ints .u8 M) := own_same hown (hb2'.block _ hgs.2.2)
      clear hb2 hb2' r0 c0 c1 c2 c3 c4 c5 c6 c7 f0 f1 f2 f3 f4 f5 f6 f7 hsl HB17 hown hb
      have c0 : w2.cell? ⟨w.heap.size, 0, none⟩ = some (.int .u32 (gI (sumTo M k) 0)) := q0.cell (i := 0) (by omega)
      have f0 := q0.frozen 0
      have c1 : w2.cell? ⟨w.heap.size, 1, none⟩ = some (.int .u32 (gI (sumTo M k) 1)) := q0.cell (i := 1) (by omega)
      have f1 := q0.frozen 1
      have c2 : w2.cell? ⟨w.heap.size, 2, none⟩ = some (.int .u32 (gI (sumTo M k) 2)) := q0.cell (i := 2) (by omega)
      have f2 := q0.frozen 2
      have c3 : w2.cell? ⟨w.heap.size, 3, none⟩ = some (.int .u32 (gI (sumTo M k) 3)) := q0.cell (i := 3) (by omega)
      have f3 := q0.frozen 3
      have c4 : w2.cell? ⟨w.heap.size, 4, none⟩ = some (.int .u32 (gI (sumTo M k) 4)) := q0.cell (i := 4) (by omega)
      have f4 := q0.frozen 4
      have c5 : w2.cell? ⟨w.heap.size, 5, none⟩ = some (.int .u32 (gI (sumTo M k) 5)) := q0.cell (i := 5) (by omega)
      have f5 := q0.frozen 5
      have c6 : w2.cell? ⟨w.heap.size, 6, none⟩ = some (.int .u32 (gI (sumTo M k) 6)) := q0.cell (i := 6) (by omega)
      have f6 := q0.frozen 6
      have c7 : w2.cell? ⟨w.heap.size, 7, none⟩ = some (.int .u32 (gI (sumTo M k) 7)) := q0.cell (i := 7) (by omega)
      have f7 := q0.frozen 7
      go_wp2
      go_roundg (gk - 1)
      case measure => have := Hkj.out; omega
      case rel =>
        refine ⟨k + 1, by have := Hkj.out; omega, ?_, ?_, ?_, ?_⟩
        · have : ((k + 1 : Nat) : Int) = (k : Int) + 1 := by omega
          rw [this]
          congr 1
        · refine (((((((((q0.set 0 _).set 1 _).set 2 _).set 3 _).set 4 _).set 5 _).set 6 _).set 7 _)).congr (fun j hj => ?_)
          rw [sumTo_succ]
          rcases j with _ | _ | _ | _ | _ | _ | _ | _ | j
          all_goals first | rfl | omega
        · have hne : ∀ (x : World) (j : Nat) (v : Value), (x.setCell ⟨w.heap.size, j, none⟩ v).heap[g]? = x.heap[g]? := fun x j v => Deep.blk_setCell_other _ _ _ _ (by simp; omega)
          exact own_same hown2 (by simp only [hne])
        · exact ((((((((hbw.setCell (by simp) _).setCell (by simp) _).setCell (by simp) _).setCell (by simp) _).setCell (by simp) _).setCell (by simp) _).setCell (by simp) _).setCell (by simp) _)
    · have hkq' : k = q := by omega
      have hq : n = 64 * q := Hq.out
      obtain ⟨S, hS⟩ : ∃ S, S = sumTo M k := ⟨_, rfl⟩
      have hSr : ∀ i, 0 ≤ gI S i ∧ gI S i < 4294967296 := fun i => by rw [hS]; exact sumTo_range M k i
      have HSr := Lib.hid hSr
      rw [← hS] at r0
      have hfin : sumI L = outTo S 8 := by
        unfold sumI
        rw [← hMM.out, ← HnM.out, hS, hkq', hq]
        congr 2
        omega
      have Hfin := Lib.hid hfin
      have hge : n ≤ 64 * k := by omega
      clear hS hfin hSr hq hown hkq'
      go_wp2
      go_loopg [6, 7] 8 (fun j v i wr => ∃ m : Nat, m + j = 8 ∧ i = .int .i64 m ∧ (m = 0 → v = .slice none 0 0) ∧ wr.ownsRow (w.heap.size + 1) 5 1 v (4 * m) (ints .u8 (outTo S m)) ∧ (0 < m → ∃ g c, v = .slice (some ⟨g, 0, none⟩) (4 * m) c) ∧ wr.rowIs w.heap.size 33 8 (fun j => .int .u32 (gI S j)) ∧ w.heap.size + 1 ≤ wr.heap.size ∧ Below w.heap.size w wr)
      case atStart => exact ⟨0, by omega, rfl, fun _ => rfl, by rw [outTo_zero]; exact World.ownsRow_nil _ _ _ _, fun h => by omega, r0, r0.lt, hb⟩
      case round =>
        clear r0 hb
        obtain ⟨m, hmj, rfl, hv0, hown, hvs, r0, hsz, hb⟩ := hrel
        have Hmj := Lib.hid hmj; have hm8 : m ≤ 8 := by omega
        have Hv0 := Lib.hid hv0; have Hvs := Lib.hid hvs
        clear hmj hv0 hvs
        by_cases hlm : m < 8
        · have cm : wr.cell? ⟨w.heap.size, m, none⟩ = some (.int .u32 (gI S m)) := r0.cell hlm
          have gm := HSr.out m
          obtain ⟨A6, n6, c6, hv⟩ : ∃ A n c, u6 = .slice A n c := by
            rcases Nat.eq_zero_or_pos m with h0 | h0
            · exact ⟨_, _, _, Hv0.out h0⟩
            · obtain ⟨g, c, h⟩ := Hvs.out h0; exact ⟨_, _, _, h⟩
          subst hv
          go_wp2_with (at_builtin; refine append_new (o := ⟨some 45, _, _, _, _, _⟩) rfl (.tmp 32) (.tmp 44) 22 rfl (w.heap.size + 1) 5 _ 1 1 Tryd.underlying22 u8info rfl (by decide) _ _ _ hown #[.int .u8 (gI S m / 16777216), .int .u8 (gI S m / 65536 % 256), .int .u8 (gI S m / 256 % 256), .int .u8 (gI S m % 256)] 4 rfl rfl rfl rfl (by simp only [maxLen]; omega) (by omega) hsz ?_; intro v' w' hown' hg' hsz' hat' hsh')
          go_roundg (gk - 1)
          case measure => have := Hmj.out; omega
          case rel =>
            have hblk : ∀ k, k ≤ w.heap.size → w'.heap[k]? = wr.heap[k]? := fun k hk => hg'.block k (by omega) (fun e => by have := (hown.lt k e.symm).1; omega)
            refine ⟨m + 1, by have := Hmj.out; omega, by go_num, fun h => by omega, ?_, ?_, r0.of_block (hblk _ (Nat.le_refl _)), by omega, hb.trans ⟨hg'.os, hg'.tape, hg'.output, hg'.size, fun k hk => hblk k (by omega)⟩⟩
            · have e0 : ints .u8 (outTo S m) ++ (#[Value.int .u8 (gI S m / 16777216), .int .u8 (gI S m / 65536 % 256), .int .u8 (gI S m / 256 % 256), .int .u8 (gI S m % 256)]).toList = ints .u8 (outTo S (m + 1)) := by
                rw [outTo_succ, show gI S m / 16777216 % 256 = gI S m / 16777216 from by omega]; simp [ints]
              rw [← e0, show 4 * (m + 1) = 4 * m + 4 from by omega]
              exact hown'
            · intro _
              rw [show 4 * (m + 1) = 4 * m + 4 from by omega]
              exact hsh' (by omega)
        · have hm8' : m = 8 := by have := Hmj.out; omega
          obtain ⟨g6, c6, hv⟩ := Hvs.out (by omega)
          have E : ints .u8 (outTo S m) = ints .u8 (sumI L) := by rw [hm8', Hfin.out]
          have E2 : 4 * m = (sumI L).length := by rw [hm8', sumI_length]
          subst hv
          rw [E, E2] at hown
          have Hf : NewBytes (sumI L) w (.returned (.slice (some ⟨g6, 0, none⟩) (4 * m) c6)) wr := ⟨g6, c6, by rw [E2], ⟨hown.1, by
            rcases hown.2 with ⟨h', _⟩ | ⟨g', cap', cur, h', hge', r⟩
            · simp at h'
            · exact .inr ⟨g', cap', cur, h', by omega, r⟩⟩, hb⟩
          clear E E2 hown hm8'
          go_wp2
          go_ret
          exact Hf
end Go.Proofs.YtmacnffbainepaaDoor
