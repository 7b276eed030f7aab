/- StepsTree, walked. -/
import Derived.Test.YtkldeelhlbhlmaaU
import Derived.Test.YtkldeelhlbhlmaaR
namespace Go.Proofs.Ytkldeelhlbhlmaa
open Go.RowKit
attribute [local irreducible] wpList Calls Code.wp wavesI timeI treeI depthI leafs fillT
set_option maxRecDepth 100000 in
set_option maxHeartbeats 4000000 in
theorem law4 (kd : Int) (B : Option Addr) (bn bc : Nat) (A : Option Addr) (c : Nat) (fs : List (Int × List Int)) (w : World) (h : Pl w (fun k => k < w.heap.size) A fs) (hn : fs.length ≤ 9223372036854775807) :
    Calls Try.prog 4 #[plan kd B bn bc A fs.length c] w (Bo true w) := by
  have h8 := fun w' (hb : Below w.heap.size w w') => few8 kd B bn bc A c fs w' (h.under hb) hn
  have H8 := Lib.hid h8; clear h8
  have HP := Lib.hid h; clear h
  have Hle := Lib.hid (@few_le fs)
  unfold plan at *
  generalize fewB fs = fb at *
  have hb0 : Below w.heap.size w (w.alloc (.cells #[.int .i64 kd, .slice B bn bc, .slice A fs.length c] 25)) := (Below.refl _ _).alloc (Nat.le_refl _) _
  have Hb0 := Lib.hid hb0; clear hb0
  go_enter Try.func4, Try.ntmps4
  go_wp2_with fail
  refine (H8.out _ Hb0.out).mono ?_
  rintro e w1 ⟨rfl, hb1⟩
  have hx1 : w1.heap[w.heap.size]? = some (.cells #[.int .i64 kd, .slice B bn bc, .slice A fs.length c] 25 (0, 0)) := (hb1.block _ (by simp)).trans (heap_at rfl)
  have Hb1 := Lib.hid (Hb0.out.trans (hb1.mono (by simp)))
  have Hx1 := Lib.hid hx1
  clear hb1 hx1
  cases fb
  · go_wp2_with fail
    refine (knows9 _).mono ?_
    rintro e w2 ⟨rfl, hb2⟩
    have Hb2 := Lib.hid (Hb1.out.trans (hb2.mono Hb1.out.size))
    clear hb2
    go_wp2
    go_ret
    exact ⟨rfl, Hb2.out⟩
  · have hn2 : fs.length ≤ 200 := Hle.out rfl
    clear hn Hle
    have k0 : w1.cell? ⟨w.heap.size, 0, none⟩ = some (.int .i64 kd) := cell_heap Hx1.out rfl
    have k1 : w1.cell? ⟨w.heap.size, 1, none⟩ = some (.slice B bn bc) := cell_heap Hx1.out rfl
    have k2 : w1.cell? ⟨w.heap.size, 2, none⟩ = some (.slice A fs.length c) := cell_heap Hx1.out rfl
    have hl1 := heap_lt Hx1.out
    have H10 := Lib.hid (fun w' (hb : Below w.heap.size w w') => waves10 kd B bn bc A c fs w' (HP.out.under hb) hn2)
    have H13 := Lib.hid (fun w' (hb : Below w.heap.size w w') => tree13 kd B bn bc A c fs w' (HP.out.under hb) hn2)
    have H15 := Lib.hid (fun w' (hb : Below w.heap.size w w') => tree15 kd B bn bc A c fs w' (HP.out.under hb) hn2)
    have HW := Lib.hid (waves_small fs hn2)
    have HC := Lib.hid (waves_cok fs hn2)
    have HD := Lib.hid (depth_treeI (wavesI fs) HW.out.1)
    have HS := Lib.hid (treeI_small (wavesI fs) HW.out.1 HW.out.2)
    have HCnt := Lib.hid (show ∀ j, j < fs.length → (leafs (treeI (wavesI fs))).count (j : Int) = if 1 ≤ (gF fs j).1 ∧ (gF fs j).1 ≤ (fs.length : Int) then 1 else 0 from fun j hj => by rw [leafs_treeI]; exact count_waves fs j hj)
    have HF := Lib.hid (fillT_succ (wavesI fs))
    have HFl := Lib.hid (show ∀ k, fillT (wavesI fs) k ≤ k from fun k => by unfold fillT; exact stepsT_length _ k)
    have HF0 := Lib.hid (show fillT (wavesI fs) 0 = 0 by unfold fillT; rfl)
    unfold plan at H10 H13 H15
    generalize wavesI fs = ws at *
    generalize treeI ws = t at *
    obtain ⟨tk, tf, tl⟩ := t
    have H17 := Lib.hid (fun A c w => depth17 2 (.node tk tf tl) A c w)
    have H14 := Lib.hid (fun A c A' c' w => same14 2 (.node tk tf tl) A c A' c' w)
    unfold tree at H17 H14
    unfold Tv tree at H13 H15
    simp only [Tree.kind, Tree.fetch, Tree.list] at H13 H15 H17 H14 HS
    have hS := HS.out
    obtain ⟨i3, hi3, z3, s3, b3⟩ := info3 intinfo
    go_wp2_with fail
    refine (H13.out _ Hb1.out).mono ?_
    rintro e w2 ⟨A2, c2, rfl, hns, hb2⟩
    have hl2 := Nat.lt_of_lt_of_le hl1 hb2.size
    have j0 := (hb2.cell (p := ⟨w.heap.size, 0, none⟩) hl1).trans k0
    have j1 := (hb2.cell (p := ⟨w.heap.size, 1, none⟩) hl1).trans k1
    have j2 := (hb2.cell (p := ⟨w.heap.size, 2, none⟩) hl1).trans k2
    have Hb2 := Lib.hid (Hb1.out.trans (hb2.mono Hb1.out.size))
    have HNS := Lib.hid hns
    clear hb2 hns k0 k1 k2 hl1
    go_wp2_with (refine wpList_make_row _ rfl _ _ 31 rfl 3 i3 _ Try.underlying31 hi3 z3 s3 rfl .i64 .i64 fs.length rfl rfl (by rw [b3]; omega) (by omega) ?_)
    have hz : (madeCells #[Value.int .i64 0] fs.length) = Array.replicate fs.length (.int .i64 0) := by
      apply Array.ext
      · simp [madeCells]
      · intro i h1 h2; simp [madeCells, Nat.mod_one]
    have hr0 := zeros_row (w := w2.alloc (.cells #[.int .i64 tk, .int .i64 tf, .slice A2 tl.length c2] 34)) (t := 3) (b := w2.heap.size + 1) (by simp) hz
    have hb3 : Below w2.heap.size w2 ((w2.alloc (.cells #[.int .i64 tk, .int .i64 tf, .slice A2 tl.length c2] 34)).alloc (.cells (madeCells #[Value.int .i64 0] fs.length) 3)) := ((Below.refl _ _).alloc (Nat.le_refl _) _).alloc (by simp) _
    have hx3 : ((w2.alloc (.cells #[.int .i64 tk, .int .i64 tf, .slice A2 tl.length c2] 34)).alloc (.cells (madeCells #[Value.int .i64 0] fs.length) 3)).heap[w2.heap.size]? = some (.cells #[.int .i64 tk, .int .i64 tf, .slice A2 tl.length c2] 34 (0, 0)) := heap_under (heap_at rfl)
    have hs3 : ((w2.alloc (.cells #[.int .i64 tk, .int .i64 tf, .slice A2 tl.length c2] 34)).alloc (.cells (madeCells #[Value.int .i64 0] fs.length) 3)).heap.size = w2.heap.size + 2 := by simp
    clear hz
    generalize hw3 : (w2.alloc (.cells #[.int .i64 tk, .int .i64 tf, .slice A2 tl.length c2] 34)).alloc (.cells (madeCells #[Value.int .i64 0] fs.length) 3) = w3 at *
    clear hw3
    have m0 := (hb3.cell (p := ⟨w.heap.size, 0, none⟩) hl2).trans j0
    have m1 := (hb3.cell (p := ⟨w.heap.size, 1, none⟩) hl2).trans j1
    have m2 := (hb3.cell (p := ⟨w.heap.size, 2, none⟩) hl2).trans j2
    have m3 : w3.cell? ⟨w2.heap.size, 0, none⟩ = some (.int .i64 tk) := cell_heap hx3 rfl
    have m4 : w3.cell? ⟨w2.heap.size, 1, none⟩ = some (.int .i64 tf) := cell_heap hx3 rfl
    have m5 : w3.cell? ⟨w2.heap.size, 2, none⟩ = some (.slice A2 tl.length c2) := cell_heap hx3 rfl
    have Hb3 := Lib.hid (Hb2.out.trans (hb3.mono Hb2.out.size))
    have Hs3 := Lib.hid hs3
    have Hr0 := Lib.hid hr0
    have HN3 := Lib.hid (show Ns w3 (fun k => k < w3.heap.size ∧ k ≠ w2.heap.size + 1) 2 A2 tl from (HNS.out.same (Same.below hb3 fun _ h => h)).mono fun k hk => ⟨Nat.lt_of_lt_of_le hk hb3.size, by omega⟩)
    have HS3 := Lib.hid (show ∀ w' : World, (∀ k, k < w2.heap.size + 1 → w'.heap[k]? = w3.heap[k]?) → (w'.cell? ⟨w.heap.size, 0, none⟩ = some (.int .i64 kd) ∧ w'.cell? ⟨w.heap.size, 1, none⟩ = some (.slice B bn bc) ∧ w'.cell? ⟨w.heap.size, 2, none⟩ = some (.slice A fs.length c) ∧ w'.cell? ⟨w2.heap.size, 0, none⟩ = some (.int .i64 tk) ∧ w'.cell? ⟨w2.heap.size, 1, none⟩ = some (.int .i64 tf) ∧ w'.cell? ⟨w2.heap.size, 2, none⟩ = some (.slice A2 tl.length c2)) from
      fun w' hw => by
        have e1 : ∀ o, w'.cell? ⟨w.heap.size, o, none⟩ = w3.cell? ⟨w.heap.size, o, none⟩ := fun o => World.cell?_of_block (w := w3) (hw w.heap.size (by omega))
        have e2 : ∀ o, w'.cell? ⟨w2.heap.size, o, none⟩ = w3.cell? ⟨w2.heap.size, o, none⟩ := fun o => World.cell?_of_block (w := w3) (hw w2.heap.size (by omega))
        exact ⟨(e1 _).trans m0, (e1 _).trans m1, (e1 _).trans m2, (e2 _).trans m3, (e2 _).trans m4, (e2 _).trans m5⟩)
    clear j0 j1 j2 hb3 hx3 hs3 hr0
    have H16 : Hid (∀ A2 c2 w', Below w3.heap.size w3 w' → Ns w3 (fun k => k < w3.heap.size ∧ k ≠ w2.heap.size + 1) 2 A2 tl → Calls Try.prog 16 #[.agg #[.int .i64 tk, .int .i64 tf, .slice A2 tl.length c2], .slice (some ⟨w2.heap.size + 1, 0, none⟩) fs.length fs.length] w' (Lf (w2.heap.size + 1) fs.length (fun _ => 0) (leafs (.node tk tf tl)) w')) := by
      intro A2 c2 w' hb hns
      have hg : w2.heap.size + 1 < w3.heap.size := by have := Hs3.out; omega
      exact leaves16 (w2.heap.size + 1) fs.length hn2 2 (.node tk tf tl) A2 c2 w' (fun _ => 0) ((hns.same (Same.below hb fun _ h => h.1)).mono fun k hk => ⟨Nat.lt_of_lt_of_le hk.1 hb.size, hk.2⟩) (Nat.lt_of_lt_of_le hg hb.size) (by simp only [Tree.list]; omega) (Hr0.out.of_block (hb.block _ hg)) HC.out
    have hmx : tl.length ≤ 9223372036854775807 := by omega
    go_wp2_with fail
    go_region_held3 (fun w' => w'.cell? ⟨w.heap.size, 0, none⟩ = some (.int .i64 kd) ∧ w'.cell? ⟨w.heap.size, 1, none⟩ = some (.slice B bn bc) ∧ w'.cell? ⟨w.heap.size, 2, none⟩ = some (.slice A fs.length c) ∧ w'.cell? ⟨w2.heap.size, 0, none⟩ = some (.int .i64 tk) ∧ w'.cell? ⟨w2.heap.size, 1, none⟩ = some (.int .i64 tf) ∧ w'.cell? ⟨w2.heap.size, 2, none⟩ = some (.slice A2 tl.length c2))
      (first | exact HS3.out _ (fun _ _ => rfl) | exact HS3.out _ Hk4.out | exact HS3.out _ Hk5.out | exact HS3.out _ Hk6.out)
      (first
        | (go_at_call 15; refine (H15.out _ (Hb3.out.drew)).mono ?_; rintro e w4 ⟨A4, c4, rfl, hn4, hb4⟩; have Hc4 := Lib.hid (((Below.refl w3.heap.size w3).drew).trans hb4); have Hk4 := Lib.hid (show ∀ k, k < w2.heap.size + 1 → w4.heap[k]? = w3.heap[k]? from fun k hk => Hc4.out.block k (by have := Hs3.out; omega)); have HN4 := Lib.hid hn4; clear hn4 hb4)
        | (go_at_call 14; refine (H14.out A2 c2 A4 c4 _ ((HN3.out.same (Same.below Hc4.out fun _ h => h.1)).mono fun k hk => Nat.lt_of_lt_of_le hk.1 Hc4.out.size) (by exact HN4.out) hmx).mono ?_; rintro e w5 ⟨rfl, hb5⟩; have Hc5 := Lib.hid (Hc4.out.trans (hb5.mono Hc4.out.size)); have Hk5 := Lib.hid (show ∀ k, k < w2.heap.size + 1 → w5.heap[k]? = w3.heap[k]? from fun k hk => Hc5.out.block k (by have := Hs3.out; omega)); clear hb5)
        | (go_at_call 16; refine (H16.out A2 c2 _ Hc5.out HN3.out).mono ?_; rintro e w6 ⟨rfl, hg6, hr6⟩; have Hc6 := Lib.hid hg6; have Hr6 := Lib.hid hr6; have Hk6 := Lib.hid (show ∀ k, k < w2.heap.size + 1 → w6.heap[k]? = w3.heap[k]? from fun k hk => (Hc6.out.1.block k hk).trans (Hk5.out k hk)); clear hg6 hr6))
    have hg : w2.heap.size + 1 < w3.heap.size := by have := Hs3.out; omega
    have Hq6 := Lib.hid (show ∀ k, k < w3.heap.size → k ≠ w2.heap.size + 1 → w6.heap[k]? = w3.heap[k]? from fun k hk hne => (Hc6.out.block (Nat.lt_of_lt_of_le hk Hc5.out.size) hne).trans (Hc5.out.block k hk))
    have Hb6 := Lib.hid (show Below w.heap.size w w6 from Hb3.out.trans ((Hc5.out.mono Hb3.out.size).trans (Hc6.out.1.mono (by have := Hb2.out.size; omega))))
    have H17' : Hid (∀ A2 c2 w', Ns w' (fun k => k < w'.heap.size) 2 A2 tl → tl.length ≤ 9223372036854775807 → Calls Try.prog 17 #[.agg #[.int .i64 tk, .int .i64 tf, .slice A2 tl.length c2]] w' (Nu (fillT ws ws.length : Nat) w')) := by
      have := H17.out
      rw [HD.out] at this
      exact this
    have hws : ws.length ≤ 200 := HW.out.1
    clear H8 H13 H15 H14 H16 H17 HD HC HS hS m0 m1 m2 m3 m4 m5 hi3 z3 s3 b3
    go_wp2
    go_loopg [5] fs.length (fun j i wr => ∃ m : Nat, m + j = fs.length ∧ i = .int .i64 m ∧ Below w6.heap.size w6 wr)
    case atStart => exact ⟨0, by omega, rfl, Below.refl _ _⟩
    case round =>
      obtain ⟨x, hmj, rfl, hb⟩ := hrel
      have Hmj := Lib.hid hmj; have hmn : x ≤ fs.length := by omega
      clear hmj
      have Hb := Lib.hid hb; clear hb
      have Hqr := Lib.hid (show ∀ k, k < w3.heap.size → k ≠ w2.heap.size + 1 → wr.heap[k]? = w3.heap[k]? from fun k hk hne => (Hb.out.block k (Nat.lt_of_lt_of_le hk (Nat.le_trans Hc5.out.size Hc6.out.1.size))).trans (Hq6.out k hk hne))
      have Hbr := Lib.hid (Hb6.out.trans (Hb.out.mono Hb6.out.size))
      by_cases hlt : x < fs.length
      · have hxi : (x : Int) < (fs.length : Int) := by omega
        obtain ⟨b, off, rfl, hI, hc⟩ := HP.out (by omega)
        have hdep := (hc x hlt).dep hI Hbr.out
        clear hc
        have hcnt := HCnt.out x hlt
        have p2 : wr.cell? ⟨w.heap.size, 2, none⟩ = some (.slice (some ⟨b, off, none⟩) fs.length c) := (HS3.out wr (fun k hk => Hqr.out k (by omega) (by omega))).2.2.1
        have hrow := Hr6.out.of_block (w' := wr) (Hb.out.block _ (Nat.lt_of_lt_of_le hg (Nat.le_trans Hc5.out.size Hc6.out.1.size)))
        have hcell := hrow.cell hlt
        simp only [hcnt, Int.zero_add] at hcell
        clear hcnt hrow
        have HQ := Lib.hid Hqr
        generalize (gF fs x).1 = d at *
        by_cases h1 : 1 ≤ d
        · by_cases h2 : d ≤ (fs.length : Int)
          · rw [if_pos ⟨h1, h2⟩] at hcell
            have hcell2 : wr.cell? ⟨w2.heap.size + 1, x, none⟩ = some (.int .i64 1) := hcell
            clear hcell
            go_wp2_with fail
            go_quiet (fail)
            go_wp2
            go_roundg (gk - 1)
            case measure => have := Hmj.out; omega
            case rel => exact ⟨x + 1, by have := Hmj.out; omega, by go_num, below_draws Hb.out _⟩
          · rw [if_neg (fun h => h2 h.2)] at hcell
            have hcell2 : wr.cell? ⟨w2.heap.size + 1, x, none⟩ = some (.int .i64 0) := hcell
            have h3 : decide (d ≤ (fs.length : Int)) = false := decide_eq_false h2
            clear hcell
            go_wp2_with fail
            go_quiet (fail)
            go_wp2
            go_roundg (gk - 1)
            case measure => have := Hmj.out; omega
            case rel => exact ⟨x + 1, by have := Hmj.out; omega, by go_num, below_draws Hb.out _⟩
        · rw [if_neg (fun h => h1 h.1)] at hcell
          have hcell2 : wr.cell? ⟨w2.heap.size + 1, x, none⟩ = some (.int .i64 0) := hcell
          have h3 : decide (1 ≤ d) = false := decide_eq_false h1
          clear hcell
          go_wp2_with fail
          go_quiet (fail)
          go_wp2
          go_roundg (gk - 1)
          case measure => have := Hmj.out; omega
          case rel => exact ⟨x + 1, by have := Hmj.out; omega, by go_num, below_draws Hb.out _⟩
      · have p3 := HS3.out wr (fun k hk => Hqr.out k (by omega) (by omega))
        obtain ⟨p0, p1, p2, _⟩ := p3
        go_wp2_with fail
        refine (H10.out _ Hbr.out).mono ?_
        rintro e w7 ⟨A7, c7, rfl, hll, hb7⟩
        have HLL := Lib.hid hll
        have Hq7 := Lib.hid (show ∀ k, k < w3.heap.size → k ≠ w2.heap.size + 1 → w7.heap[k]? = w3.heap[k]? from fun k hk hne => (hb7.block k (Nat.lt_of_lt_of_le hk (Nat.le_trans (Nat.le_trans Hc5.out.size Hc6.out.1.size) Hb.out.size))).trans (Hqr.out k hk hne))
        have Hb7 := Lib.hid (Hbr.out.trans (hb7.mono Hbr.out.size))
        have hw7 : w3.heap.size ≤ w7.heap.size := Nat.le_trans (Nat.le_trans (Nat.le_trans Hc5.out.size Hc6.out.1.size) Hb.out.size) hb7.size
        clear hll hb7 p0 p1 p2
        go_wp2
        go_loopg [7, 8] ws.length (fun j s i wr => ∃ m : Nat, m + j = ws.length ∧ i = .int .i64 m ∧ s = .int .i64 (fillT ws m : Nat) ∧ Below w7.heap.size w7 wr)
        case atStart => exact ⟨0, by omega, rfl, by rw [HF0.out]; rfl, Below.refl _ _⟩
        case round =>
          clear Hmj hmn Hb Hqr Hbr
          obtain ⟨y, hmj, rfl, rfl, hb⟩ := hrel
          have Hmj := Lib.hid hmj; have hmn : y ≤ ws.length := by omega
          clear hmj
          have Hb := Lib.hid hb
          have hfl : fillT ws y ≤ y := HFl.out y
          by_cases hlty : y < ws.length
          · obtain ⟨b, off, rfl, hI, hc⟩ := HLL.out.at (by omega)
            obtain ⟨B2, d2, k1, i1⟩ := hc y hlty
            have e1 := (hb.cell (p := ⟨b, off + y, none⟩) hI).trans k1
            clear hc k1 i1 hb
            have hsucc := HF.out y
            by_cases hpos : 0 < (gL ws y).length
            · rw [if_pos hpos] at hsucc
              have Hsucc := Lib.hid hsucc
              have hdec : decide (((gL ws y).length : Int) > 0) = true := decide_eq_true (by omega)
              clear hsucc
              go_wp2
              go_roundg (ws.length - y - 1)
              case measure => have := Hmj.out; omega
              case rel => exact ⟨y + 1, by have := Hmj.out; omega, by go_num, by rw [Hsucc.out]; go_num, Hb.out⟩
            · rw [if_neg hpos] at hsucc
              have Hsucc := Lib.hid hsucc
              have hdec : decide (((gL ws y).length : Int) > 0) = false := decide_eq_false (by omega)
              clear hsucc
              go_wp2
              go_roundg (ws.length - y - 1)
              case measure => have := Hmj.out; omega
              case rel => exact ⟨y + 1, by have := Hmj.out; omega, by go_num, by rw [Hsucc.out], Hb.out⟩
          · obtain rfl : y = ws.length := by omega
            have hqr : ∀ k, k < w3.heap.size → k ≠ w2.heap.size + 1 → wr.heap[k]? = w3.heap[k]? := fun k hk hne => (hb.block k (Nat.lt_of_lt_of_le hk hw7)).trans (Hq7.out k hk hne)
            have HN := Lib.hid (show Ns wr (fun k => k < wr.heap.size) 2 A2 tl from (HN3.out.same (w' := wr) (fun k hk => hqr k hk.1 hk.2)).mono fun k hk => Nat.lt_of_lt_of_le (Nat.lt_of_lt_of_le hk.1 hw7) hb.size)
            obtain ⟨p0, p1, p2, p3, p4, p5⟩ := HS3.out wr (fun k hk => hqr k (by omega) (by omega))
            clear hqr hb
            have heq : (((fillT ws ws.length : Nat) : Int) == ((fillT ws ws.length : Nat) : Int)) = true := by simp
            go_wp2_with fail
            refine (H17'.out A2 c2 _ HN.out hmx).mono ?_
            rintro e w8 ⟨rfl, hb8⟩
            have Hb8 := Lib.hid (Hb7.out.trans ((Hb.out.trans (hb8.mono Hb.out.size)).mono Hb7.out.size))
            clear hb8
            go_wp2_with fail
            refine (knows9 _).mono ?_
            rintro e w9 ⟨rfl, hb9⟩
            have Hb9 := Lib.hid (Hb8.out.trans (hb9.mono Hb8.out.size))
            clear hb9
            go_wp2
            go_ret
            exact ⟨rfl, Hb9.out⟩
end Go.Proofs.Ytkldeelhlbhlmaa
