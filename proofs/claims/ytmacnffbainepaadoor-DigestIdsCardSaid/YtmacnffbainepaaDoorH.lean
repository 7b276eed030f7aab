/- The hash, in the program's text. -/
import Derived.Test.YtmacnffbainepaaDoorG
namespace Go.Proofs.YtmacnffbainepaaDoor
open Go.RowKit
attribute [local irreducible] ws rnds blockI wpList Calls Code.wp sumTo outTo
set_option maxRecDepth 100000 in
set_option maxHeartbeats 2000000 in
theorem sum8 (L : List Int) (A : Option Addr) (cap : Nat) (I : Nat → Prop) (w : World) (hI : ∀ k, I k → k < w.heap.size) (hr : Rd w I 1 A L.length (ints .u8 L)) (hcap : L.length ≤ cap) (hn : L.length ≤ 1000000) (hb : Bytes L)
    (hk : ∀ i, i < 64 → w.cell? ⟨0, i, none⟩ = some (.int .u32 (gI kk i))) :
    Calls Tryd.prog 8 #[.slice A L.length cap] w (NewBytes (sumI L) w) := by
  have hk0 : 0 < w.heap.size := block_lt_of_cell (hk 0 (by omega))
  have HK := Lib.hid hk; clear hk
  have HB := Lib.hid hb; clear hb
  have HR := Lib.hid hr; clear hr
  have HII := Lib.hid hI; clear hI
  have hn0 : ∃ n, n = L.length := ⟨_, rfl⟩
  obtain ⟨n, hn1⟩ := hn0
  rw [← hn1] at HR hn hcap ⊢
  have Hn1 := Lib.hid hn1; clear hn1
  have hS : ∀ w, (sizeOf 5).run Tryd.prog w = .ok 1 w := fun w => by kernel_rfl
  have HS := Lib.hid hS; clear hS
  have hsl := fun w => slice_whole (P := Tryd.prog) 22 5 1 Tryd.underlying22 HS.out A n cap hcap .i64 .i64 w
  go_enter Tryd.func8, Tryd.ntmps8
  go_wp2_with (at_builtin; refine append_full (o := ⟨some 18, _, _, _, _, _⟩) rfl (.tmp 16) (.tmp 17) 22 rfl 5 _ 1 1 Tryd.underlying22 u8info rfl (by decide) A n (ints .u8 L) I HII.out HR.out #[.int .u8 128] 1 rfl (by decide) rfl rfl rfl (by simp only [maxLen]; omega) (by omega) ?_; intro g2 c2 w2 hg2 hown2 hgr2 hsz2)
  have hb2 : Below w.heap.size w w2 := (Below.refl _ _).grown hgr2 (Nat.le_refl _) (by simp)
  have hown2' : w2.ownsRow w.heap.size 5 1 (.slice (some ⟨g2, 0, none⟩) (n + 1 + 0) c2) (n + 1 + 0) (ints .u8 (L ++ [128] ++ List.replicate 0 0)) := by
    have e0 : ints .u8 L ++ (#[Value.int .u8 128]).toList = ints .u8 (L ++ [128] ++ List.replicate 0 0) := by simp [ints]
    rw [← e0]
    exact hown2
  clear hown2 hsl hgr2 hsz2
  clear hg2
  have hp64 := padN_le n
  have hpe := padN_end n
  have hpb := padN_before n
  obtain ⟨p, hp⟩ : ∃ p, p = padN n := ⟨_, rfl⟩
  rw [← hp] at hp64 hpe hpb
  have Hp := Lib.hid hp; have Hpe := Lib.hid hpe; have Hpb := Lib.hid hpb
  clear hp hpe hpb
  go_loopg [3] p (fun j v wr => ∃ k g c : Nat, k + j = p ∧ v = .slice (some ⟨g, 0, none⟩) (n + 1 + k) c ∧ wr.ownsRow w.heap.size 5 1 v (n + 1 + k) (ints .u8 (L ++ [128] ++ List.replicate k 0)) ∧ Below w.heap.size w wr)
  case atStart => exact ⟨0, g2, c2, by omega, rfl, hown2', hb2⟩
  case round =>
    clear hown2' hb2
    obtain ⟨k, g, c, hkj, rfl, hown, hb⟩ := hrel
    have hkp : k ≤ p := by omega
    by_cases hlt : k < p
    · have hne := Hpb.out k hlt
      have Hkj := Lib.hid hkj; clear hkj
      go_wp2_with (at_builtin; refine append_new (o := ⟨some 25, _, _, _, _, _⟩) rfl (.tmp 23) (.tmp 24) 22 rfl w.heap.size 5 _ 1 1 Tryd.underlying22 u8info rfl (by decide) _ _ _ hown #[.int .u8 0] 1 rfl rfl rfl rfl (by simp only [maxLen]; omega) (by omega) hb.size ?_; intro v' w' hown' hg' hsz' hat' hsh'; obtain ⟨g', c', rfl⟩ := hsh' (by omega))
      go_roundg (gk - 1)
      case measure => have := Hkj.out; omega
      case rel =>
        refine ⟨k + 1, g', c', by have := Hkj.out; omega, rfl, ?_, hb.grown hg' hb.size (fun x hx => (hown.lt x hx).1)⟩
        have e0 : ints .u8 (L ++ [128] ++ List.replicate k 0) ++ (#[Value.int .u8 0]).toList = ints .u8 (L ++ [128] ++ List.replicate (k + 1) 0) := by simp [ints, List.replicate_succ', ← List.append_assoc]
        rw [← e0]
        exact hown'
    · have hkp' : k = p := by omega
      subst hkp'
      have hpe := Hpe.out
      clear hkj
      have hd : (((n : Int) + 1 + k) % 64 != 56) = false := by rw [bne_eq_false_iff_eq]; omega
      clear hpe
      go_wp2
      clear hd
      have hpe := Hpe.out
      have hsl : ((n : Int) + 1 + k) % 64 = 56 := by omega
      obtain ⟨P1, hP1⟩ : ∃ P1, P1 = L ++ [128] ++ List.replicate k 0 := ⟨_, rfl⟩
      rw [← hP1] at hown
      have HP1 := Lib.hid hP1; clear hP1
      clear hpe hsl
      go_loopg [3, 5] 8 (fun j v i wr => ∃ m g c : Nat, m + j = 8 ∧ i = .int .i64 (56 - 8 * (m : Int)) ∧ v = .slice (some ⟨g, 0, none⟩) (n + 1 + k + m) c ∧ wr.ownsRow w.heap.size 5 1 v (n + 1 + k + m) (ints .u8 (P1 ++ lenTo n m)) ∧ Below w.heap.size w wr)
      case atStart => exact ⟨0, g, c, by omega, rfl, rfl, by simpa [lenTo] using hown, hb⟩
      case round =>
        clear hown hb
        obtain ⟨m, g, c, hm, rfl, rfl, hown, hb⟩ := hrel
        have Hm := Lib.hid hm; have hm' : m ≤ 8 := by omega
        clear hm
        by_cases hlt : m < 8
        · go_wp2_with (at_builtin; refine append_new (o := ⟨some 40, _, _, _, _, _⟩) rfl (.tmp 34) (.tmp 39) 22 rfl w.heap.size 5 _ 1 1 Tryd.underlying22 u8info rfl (by decide) _ _ _ hown #[.int .u8 ((n : Int) * 8 / 2 ^ (56 - 8 * m) % 256)] 1 rfl rfl rfl rfl (by simp only [maxLen]; omega) (by omega) hb.size ?_; intro v' w' hown' hg' hsz' hat' hsh'; obtain ⟨g', c', rfl⟩ := hsh' (by omega))
          go_roundg (gk - 1)
          case rel =>
            refine ⟨m + 1, g', c', by have := Hm.out; omega, ?_, rfl, ?_, hb.grown hg' hb.size (fun x hx => (hown.lt x hx).1)⟩
            · rw [show ((m + 1 : Nat) : Int) = (m : Int) + 1 from by omega]; congr 1; omega
            · have e0 : ints .u8 (P1 ++ lenTo n m) ++ (#[Value.int .u8 ((n : Int) * 8 / 2 ^ (56 - 8 * m) % 256)]).toList = ints .u8 (P1 ++ lenTo n (m + 1)) := by rw [lenTo_succ]; simp [ints]
              rw [← e0]
              exact hown'
          case measure => have := Hm.out; omega
        · have hm8 : m = 8 := by omega
          have E : ints .u8 (P1 ++ lenTo n m) = ints .u8 (msgI L) := by rw [hm8, HP1.out, Hn1.out, Hp.out, Hn1.out]; rfl
          obtain ⟨M, hM⟩ : ∃ M, M = msgI L := ⟨_, rfl⟩
          obtain ⟨N, hN⟩ : ∃ N, N = n + 1 + k + m := ⟨_, rfl⟩
          have E2 : N = M.length := by
            have := hown.1
            rw [E, ← hM] at this
            rw [hN]
            simpa [ints] using this.symm
          have hNM : N % 64 = 0 := by rw [E2, hM]; exact msgI_length L
          have hmp : N ≤ n + 200 := by have := padN_le n; omega
          rw [E, ← hM, ← hN] at hown
          obtain ⟨q, hq⟩ : ∃ q, N = 64 * q := ⟨N / 64, by omega⟩
          have hge : ¬ (0 : Int) ≤ 56 - 8 * (m : Int) := by omega
          have hd : decide ((0 : Int) ≤ 56 - 8 * (m : Int)) = false := by simp; omega
          have hd2 : decide (8 * (m : Int) ≤ 56) = false := by simp; omega
          have hNc := (own_cap hown).1
          have hgc := (own_cap hown).2
          rw [← hN]
          have HM := Lib.hid hM; have HN := Lib.hid hN; have HE2 := Lib.hid E2; have Hq := Lib.hid hq
          clear hm8 E hM hN E2 hNM hq
          have HBM := Lib.hid (gI_bytes (msgI_bytes HB.out))
          go_wp2
          clear hd hd2 hge
          obtain ⟨G, hG⟩ : ∃ G, G = wr.heap.size := ⟨_, rfl⟩
          have f0 := row_of_block (t := 33) (n := 8) (k := .u32) (w := wr.alloc (.cells #[.int .u32 1779033703, .int .u32 3144134277, .int .u32 1013904242, .int .u32 2773480762, .int .u32 1359893119, .int .u32 2600822924, .int .u32 528734635, .int .u32 1541459225] 33)) (b := G) ivI rfl rfl (heap_at hG.symm)
          have hGb : w.heap.size ≤ G := by rw [hG]; exact hb.size
          have hgG : g < G := by rw [hG]; exact hgc.2
          have HG := Lib.hid hG
          clear hG
          rw [← HG.out]
          go_loopg [3] q (fun j v w3 => ∃ k o : Nat, k + j = q ∧ v = .slice (some ⟨g, o, none⟩) (N - 64 * k) (c - 64 * k) ∧ (k < q → o = 64 * k) ∧ w3.rowIs G 33 8 (fun j => .int .u32 (gI (sumTo M k) j)) ∧ w3.ownsRow w.heap.size 5 1 (.slice (some ⟨g, 0, none⟩) N c) N (ints .u8 M) ∧ G + 1 ≤ w3.heap.size ∧ Below w.heap.size w w3)
          case atStart => exact ⟨0, 0, by omega, rfl, fun _ => rfl, by unfold sumTo; exact f0, hown.alloc _, by simp [HG.out], hb.alloc hb.size _⟩
          case round =>
            clear f0 hown hb
            obtain ⟨k3, o, hkj, rfl, ho, r0, hown, hsz, hb⟩ := hrel
            have Hkj := Lib.hid hkj; have hkq : k3 ≤ q := by omega
            clear hkj
            have hNq := Hq.out
            by_cases hlt : k3 < q
            · obtain rfl := ho hlt
              have hkn : 64 * k3 + 64 ≤ N := by omega
              have HNq := Lib.hid hNq; clear hNq
              go_wp2_with fail
              have hgw : g < wr.heap.size := by omega
              obtain ⟨bs, hbs⟩ : ∃ bs : Array Value, bs = ((List.range 64).map fun i => Value.int .u8 (gI M (64 * k3 + i))).toArray := ⟨_, rfl⟩
              have hbsz : bs.size = 64 := by rw [hbs]; simp
              have hbsi : ∀ i, i < 64 → bs[i]? = some (.int .u8 (gI M (64 * k3 + i))) := fun i hi => by rw [hbs]; simp [hi]
              have hsrc : ∀ j v, bs[j]? = some v → wr.cell? ⟨g, 64 * k3 + j, none⟩ = some v := fun j v hj => by
                have hj64 : j < 64 := by rw [← hbsz]; exact (Array.getElem?_eq_some_iff.1 hj).1
                rw [own_cell hown (64 * k3 + j) (by omega), ← hbsi j hj64]; exact hj
              have hall : bs.all (·.oneCell') = true := by
                rw [hbs, Array.all_eq_true_iff_forall_mem]
                intro x hx
                simp only [List.mem_toArray, List.mem_map] at hx
                obtain ⟨_, _, rfl⟩ := hx
                rfl
              have Hbsz := Lib.hid hbsz; have Hbsi := Lib.hid hbsi; have Hsrc := Lib.hid hsrc; have Hall := Lib.hid hall
              clear hbsz hbsi hsrc hall hbs
              have z34 : (Tryd.prog.info? 34).map (·.size) = some bs.size := by rw [Hbsz.out]; kernel_rfl
              have Z34 := Lib.hid z34; clear z34
              have u8one : (Tryd.prog.info? 5).map (·.size) = some 1 := by kernel_rfl
              have U8 := Lib.hid u8one; clear u8one
              have c0 : (wr.alloc (.cells bs 34)).cell? ⟨G, 0, none⟩ = some (.int .u32 (gI (sumTo M k3) 0)) := (World.cell?_alloc_lt _ _ _ (by exact hsz)).trans (r0.cell (i := 0) (by omega))
              have c1 : (wr.alloc (.cells bs 34)).cell? ⟨G, 1, none⟩ = some (.int .u32 (gI (sumTo M k3) 1)) := (World.cell?_alloc_lt _ _ _ (by exact hsz)).trans (r0.cell (i := 1) (by omega))
              have c2 : (wr.alloc (.cells bs 34)).cell? ⟨G, 2, none⟩ = some (.int .u32 (gI (sumTo M k3) 2)) := (World.cell?_alloc_lt _ _ _ (by exact hsz)).trans (r0.cell (i := 2) (by omega))
              have c3 : (wr.alloc (.cells bs 34)).cell? ⟨G, 3, none⟩ = some (.int .u32 (gI (sumTo M k3) 3)) := (World.cell?_alloc_lt _ _ _ (by exact hsz)).trans (r0.cell (i := 3) (by omega))
              have c4 : (wr.alloc (.cells bs 34)).cell? ⟨G, 4, none⟩ = some (.int .u32 (gI (sumTo M k3) 4)) := (World.cell?_alloc_lt _ _ _ (by exact hsz)).trans (r0.cell (i := 4) (by omega))
              have c5 : (wr.alloc (.cells bs 34)).cell? ⟨G, 5, none⟩ = some (.int .u32 (gI (sumTo M k3) 5)) := (World.cell?_alloc_lt _ _ _ (by exact hsz)).trans (r0.cell (i := 5) (by omega))
              have c6 : (wr.alloc (.cells bs 34)).cell? ⟨G, 6, none⟩ = some (.int .u32 (gI (sumTo M k3) 6)) := (World.cell?_alloc_lt _ _ _ (by exact hsz)).trans (r0.cell (i := 6) (by omega))
              have c7 : (wr.alloc (.cells bs 34)).cell? ⟨G, 7, none⟩ = some (.int .u32 (gI (sumTo M k3) 7)) := (World.cell?_alloc_lt _ _ _ (by exact hsz)).trans (r0.cell (i := 7) (by omega))
              have hcopy := run_copy_fill (P := Tryd.prog) (w := wr) 22 22 3 5 Tryd.underlying22 U8.out wr.heap.size rfl 34 64 g (64 * k3) (N - 64 * k3) (c - 64 * k3) bs Hbsz.out (by omega) hgw Hsrc.out Hall.out
              have hS8 := blockI_length (fun j => gI M (64 * k3 + j)) (sumTo M k3)
              have h15 := round15 (fun j => gI M (64 * k3 + j)) (sumTo M k3) bs (wr.alloc (.cells bs 34)) Hbsz.out Hbsi.out (fun i => by rw [HM.out]; exact HBM.out _) (sumTo_length M k3) (sumTo_range M k3) (fun i hi => by
                rw [World.cell?_alloc_lt _ _ _ (by exact Nat.lt_of_lt_of_le hk0 hb.size)]
                exact (hb.cell (by exact hk0)).trans (HK.out i hi))
              rw [agg8 _ (sumTo_length M k3), agg8 _ hS8] at h15
              have H15 := Lib.hid h15
              clear h15 hS8
              go_wp2
              rw [hcopy _ rfl]
              clear hcopy
              go_wp2_with (refine wpList_load_row (o := ⟨some 51, _, _, _, _, _⟩) rfl 34 (.tmp 7) rfl wr.heap.size rfl 34 bs (0, 0) _ (heap_at rfl) Tryd.underlying34 rfl Z34.out ?_)
              refine H15.out.mono ?_
              rintro e w4 ⟨rfl, hb4⟩
              have hb4' : Below wr.heap.size wr w4 := ((Below.refl _ _).alloc (Nat.le_refl _) _).trans (hb4.mono (by simp))
              have hbw : Below w.heap.size w w4 := hb.trans (hb4'.mono hb.size)
              have q0 : w4.rowIs G 33 8 (fun j => .int .u32 (gI (sumTo M k3) j)) := r0.of_block (hb4'.block _ r0.lt)
              have hown4 : w4.ownsRow w.heap.size 5 1 (.slice (some ⟨g, 0, none⟩) N c) N (ints .u8 M) := own_same hown (hb4'.block _ hgw)
              have hsz4 : G + 1 ≤ w4.heap.size := Nat.le_trans hsz hb4'.size
              clear hb4 hb4' r0 c0 c1 c2 c3 c4 c5 c6 c7 H15 hown hb hsz
              have c0 : w4.cell? ⟨G, 0, none⟩ = some (.int .u32 (gI (sumTo M k3) 0)) := q0.cell (i := 0) (by omega)
              have f0 := q0.frozen 0
              have c1 : w4.cell? ⟨G, 1, none⟩ = some (.int .u32 (gI (sumTo M k3) 1)) := q0.cell (i := 1) (by omega)
              have f1 := q0.frozen 1
              have c2 : w4.cell? ⟨G, 2, none⟩ = some (.int .u32 (gI (sumTo M k3) 2)) := q0.cell (i := 2) (by omega)
              have f2 := q0.frozen 2
              have c3 : w4.cell? ⟨G, 3, none⟩ = some (.int .u32 (gI (sumTo M k3) 3)) := q0.cell (i := 3) (by omega)
              have f3 := q0.frozen 3
              have c4 : w4.cell? ⟨G, 4, none⟩ = some (.int .u32 (gI (sumTo M k3) 4)) := q0.cell (i := 4) (by omega)
              have f4 := q0.frozen 4
              have c5 : w4.cell? ⟨G, 5, none⟩ = some (.int .u32 (gI (sumTo M k3) 5)) := q0.cell (i := 5) (by omega)
              have f5 := q0.frozen 5
              have c6 : w4.cell? ⟨G, 6, none⟩ = some (.int .u32 (gI (sumTo M k3) 6)) := q0.cell (i := 6) (by omega)
              have f6 := q0.frozen 6
              have c7 : w4.cell? ⟨G, 7, none⟩ = some (.int .u32 (gI (sumTo M k3) 7)) := q0.cell (i := 7) (by omega)
              have f7 := q0.frozen 7
              go_wp2
              all_goals
                have hNq := HNq.out
                have hkj := Hkj.out
                go_roundg (gk - 1)
                case measure => omega
                case rel =>
                  apply Exists.intro (k3 + 1)
                  apply Exists.intro
                  refine ⟨by omega, ?_, ?_, ?_, ?_, ?_, ?_⟩
                  · rw [show N - 64 * (k3 + 1) = N - 64 * k3 - 64 from by omega]
                    first | rw [show c - 64 * (k3 + 1) = 0 from by omega] | rw [show c - 64 * (k3 + 1) = c - 64 * k3 - 64 from by omega]
                  · intro h; omega
                  · refine (((((((((q0.set 0 _).set 1 _).set 2 _).set 3 _).set 4 _).set 5 _).set 6 _).set 7 _)).congr (fun j hj => ?_)
                    rw [sumTo_succ]
                    rcases j with _ | _ | _ | _ | _ | _ | _ | _ | j
                    all_goals first | rfl | omega
                  · have hne : ∀ (x : World) (j : Nat) (v : Value), (x.setCell ⟨G, j, none⟩ v).heap[g]? = x.heap[g]? := fun x j v => Deep.blk_setCell_other _ _ _ _ (by simp; omega)
                    exact own_same hown4 (by simp only [hne])
                  · simpa using hsz4
                  · exact ((((((((hbw.setCell (by simp <;> omega) _).setCell (by simp <;> omega) _).setCell (by simp <;> omega) _).setCell (by simp <;> omega) _).setCell (by simp <;> omega) _).setCell (by simp <;> omega) _).setCell (by simp <;> omega) _).setCell (by simp <;> omega) _)
            · have hkq' : k3 = q := by omega
              obtain ⟨S, hSS⟩ : ∃ S, S = sumTo M k3 := ⟨_, rfl⟩
              have hSr : ∀ i, 0 ≤ gI S i ∧ gI S i < 4294967296 := fun i => by rw [hSS]; exact sumTo_range M k3 i
              have HSr := Lib.hid hSr
              have hfin : sumI L = outTo S 8 := by
                unfold sumI
                rw [← HM.out, ← HE2.out, hSS, hkq', hNq]
                congr 2
                omega
              rw [← hSS] at r0
              have Hfin := Lib.hid hfin
              have hz : N - 64 * k3 = 0 := by omega
              rw [hz]
              have c0 : wr.cell? ⟨G, 0, none⟩ = some (.int .u32 (gI S 0)) := r0.cell (i := 0) (by omega)
              have c1 : wr.cell? ⟨G, 1, none⟩ = some (.int .u32 (gI S 1)) := r0.cell (i := 1) (by omega)
              have c2 : wr.cell? ⟨G, 2, none⟩ = some (.int .u32 (gI S 2)) := r0.cell (i := 2) (by omega)
              have c3 : wr.cell? ⟨G, 3, none⟩ = some (.int .u32 (gI S 3)) := r0.cell (i := 3) (by omega)
              have c4 : wr.cell? ⟨G, 4, none⟩ = some (.int .u32 (gI S 4)) := r0.cell (i := 4) (by omega)
              have c5 : wr.cell? ⟨G, 5, none⟩ = some (.int .u32 (gI S 5)) := r0.cell (i := 5) (by omega)
              have c6 : wr.cell? ⟨G, 6, none⟩ = some (.int .u32 (gI S 6)) := r0.cell (i := 6) (by omega)
              have c7 : wr.cell? ⟨G, 7, none⟩ = some (.int .u32 (gI S 7)) := r0.cell (i := 7) (by omega)
              clear hSS hfin hSr hkq' hNq hz hown ho r0
              go_wp2
              have hx8 : ∀ m, m < 8 → (#[Value.int .u32 (gI S 0), .int .u32 (gI S 1), .int .u32 (gI S 2), .int .u32 (gI S 3), .int .u32 (gI S 4), .int .u32 (gI S 5), .int .u32 (gI S 6), .int .u32 (gI S 7)])[m]? = some (.int .u32 (gI S m)) := fun m hm => by
                rcases m with _ | _ | _ | _ | _ | _ | _ | _ | m
                all_goals first | rfl | omega
              have HX8 := Lib.hid hx8; clear hx8
              clear c0 c1 c2 c3 c4 c5 c6 c7
              have hsz0 : w.heap.size ≤ wr.heap.size := hb.size
              go_loopg [8, 54] 8 (fun j v i wr => ∃ m : Nat, m + j = 8 ∧ i = .int .i64 m ∧ (m = 0 → v = .slice none 0 0) ∧ wr.ownsRow w.heap.size 5 1 v (4 * m) (ints .u8 (outTo S m)) ∧ (0 < m → ∃ g c, v = .slice (some ⟨g, 0, none⟩) (4 * m) c) ∧ Below w.heap.size w wr)
              case atStart => exact ⟨0, by omega, rfl, fun _ => rfl, by rw [outTo_zero]; exact World.ownsRow_nil _ _ _ _, fun h => by omega, hb⟩
              case round =>
                clear hb hsz0 hsz
                obtain ⟨x, hmj, rfl, hv0, hown, hvs, hb⟩ := hrel
                have Hmj := Lib.hid hmj; have hm8 : x ≤ 8 := by omega
                have Hv0 := Lib.hid hv0; have Hvs := Lib.hid hvs
                clear hmj hv0 hvs
                by_cases hlm : x < 8
                · have gm := HSr.out x
                  have hx := fun wx => run_index_arr (P := Tryd.prog) (w := wx) 33 32 8 _ .i64 x _ Tryd.underlying33 (fun w => by kernel_rfl) (fun w => by kernel_rfl) hlm (HX8.out x hlm)
                  obtain ⟨A6, n6, c6, hv⟩ : ∃ A n c, u8 = .slice A n c := by
                    rcases Nat.eq_zero_or_pos x with h0 | h0
                    · exact ⟨_, _, _, Hv0.out h0⟩
                    · obtain ⟨g, c, h⟩ := Hvs.out h0; exact ⟨_, _, _, h⟩
                  subst hv
                  go_wp2_with (at_builtin; refine append_new (o := ⟨some 70, _, _, _, _, _⟩) rfl (.tmp 57) (.tmp 69) 22 rfl w.heap.size 5 _ 1 1 Tryd.underlying22 u8info rfl (by decide) _ _ _ hown #[.int .u8 (gI S x / 16777216), .int .u8 (gI S x / 65536 % 256), .int .u8 (gI S x / 256 % 256), .int .u8 (gI S x % 256)] 4 rfl rfl rfl rfl (by simp only [maxLen]; omega) (by omega) hb.size ?_; intro v' w' hown' hg' hsz' hat' hsh')
                  go_roundg (gk - 1)
                  case measure => have := Hmj.out; omega
                  case rel =>
                    refine ⟨x + 1, by have := Hmj.out; omega, by go_num, fun h => by omega, ?_, ?_, hb.grown hg' hb.size (fun y hy => (hown.lt y hy).1)⟩
                    · have e0 : ints .u8 (outTo S x) ++ (#[Value.int .u8 (gI S x / 16777216), .int .u8 (gI S x / 65536 % 256), .int .u8 (gI S x / 256 % 256), .int .u8 (gI S x % 256)]).toList = ints .u8 (outTo S (x + 1)) := by
                        rw [outTo_succ, show gI S x / 16777216 % 256 = gI S x / 16777216 from by omega]; simp [ints]
                      rw [← e0, show 4 * (x + 1) = 4 * x + 4 from by omega]
                      exact hown'
                    · intro _
                      rw [show 4 * (x + 1) = 4 * x + 4 from by omega]
                      exact hsh' (by omega)
                · have hm8' : x = 8 := by have := Hmj.out; omega
                  obtain ⟨g6, c6, hv⟩ := Hvs.out (by omega)
                  have E : ints .u8 (outTo S x) = ints .u8 (sumI L) := by rw [hm8', Hfin.out]
                  have E2 : 4 * x = (sumI L).length := by rw [hm8', sumI_length]
                  subst hv
                  rw [E, E2] at hown
                  have Hf : NewBytes (sumI L) w (.returned (.slice (some ⟨g6, 0, none⟩) (4 * x) c6)) wr := ⟨g6, c6, by rw [E2], hown, hb⟩
                  clear E E2 hown hm8'
                  go_wp2
                  go_ret
                  exact Hf
end Go.Proofs.YtmacnffbainepaaDoor
