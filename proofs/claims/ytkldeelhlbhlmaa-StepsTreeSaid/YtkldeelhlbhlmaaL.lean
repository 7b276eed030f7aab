/- The steps of a plan, in the program's text. -/
import Derived.Test.YtkldeelhlbhlmaaK
import Derived.Test.YtkldeelhlbhlmaaJ
namespace Go.Proofs.Ytkldeelhlbhlmaa
open Go.RowKit
attribute [local irreducible] wpList Calls Code.wp wavesI stepsT
/-- a step comes back, of which nothing was there -/
def Tv (t : Tree) (w : World) (e : Ending) (w' : World) : Prop := ∃ A c, e = .returned (tree A c t) ∧ Ns w' (fun k => k < w'.heap.size) 2 A t.list ∧ Below w.heap.size w w'
theorem LL.at {w : World} {I : Nat → Prop} {A : Option Addr} {ws : List (List Int)} (h : LL w I A ws) (hn : 0 < ws.length) : ∃ b off, A = some ⟨b, off, none⟩ ∧ I b ∧ ∀ i, i < ws.length → ∃ B c, w.cell? ⟨b, off + i, none⟩ = some (.slice B (gL ws i).length c) ∧ Is w I B (gL ws i) := by
  obtain ⟨xs, h1, h2⟩ := h
  obtain ⟨b, off, hA, hb, hc⟩ := h1.2 hn
  refine ⟨b, off, hA, hb, fun i hi => ?_⟩
  obtain ⟨B, c, h3, h4⟩ := h2.2 i hi
  exact ⟨B, c, hc i _ h3, h4⟩
theorem waves_small (fs : List (Int × List Int)) (hn : fs.length ≤ 200) : (wavesI fs).length ≤ 200 ∧ ∀ i, (gL (wavesI fs) i).length ≤ 200 := by
  have h1 := wavesS_length fs fs.length fs.length
  have h2 := mostT_range fs fs.length fs.length
  rw [← waves_eq]
  exact ⟨by omega, fun i => wavesS_small fs fs.length fs.length i hn⟩
theorem leaves_snoc {l : List Int} {k : Nat} (h : k < l.length) : leaves (l.take (k + 1)) = leaves (l.take k) ++ [leaf (gI l k)] := by
  have e : l.take (k + 1) = l.take k ++ [l[k]] := by rw [List.take_add_one, List.getElem?_eq_getElem h]; rfl
  rw [e]
  simp only [leaves, List.map_append, List.map_cons, List.map_nil]
  simp [gI, List.getElem?_eq_getElem h]
theorem fin3 {w : World} {g : Nat} {y0 y1 y2 x0 x1 x2 : Value} {t : TypeId} (h : w.heap[g]? = some (.cells #[y0, y1, y2] t (0, 0))) :
    (((w.setCell ⟨g, 0, none⟩ x0).setCell ⟨g, 1, none⟩ x1).setCell ⟨g, 2, none⟩ x2).heap[g]? = some (.cells #[x0, x1, x2] t (0, 0)) := by
  rw [set_heap (set_heap (set_heap h))]; rfl
theorem set3 {w : World} {g k : Nat} {x0 x1 x2 : Value} (h : k ≠ g) : (((w.setCell ⟨g, 0, none⟩ x0).setCell ⟨g, 1, none⟩ x1).setCell ⟨g, 2, none⟩ x2).heap[k]? = w.heap[k]? := by
  rw [set_other (show k ≠ g from h), set_other (show k ≠ g from h), set_other (show k ≠ g from h)]
theorem Ns.up {w : World} {I : Nat → Prop} : ∀ {h : Nat} {A : Option Addr} {l : List Tree}, Ns w I h A l → Ns w I (h + 1) A l
  | 0, _, l, h => fun hn => by rw [show l = [] from h] at hn; simp at hn
  | n + 1, A, l, h => fun hn => by
    obtain ⟨b, off, hA, hb, hc⟩ := h hn
    refine ⟨b, off, hA, hb, fun i hi => ?_⟩
    obtain ⟨B, c, h1, h2, h3, h4, h5⟩ := hc i hi
    exact ⟨B, c, h1, h2, h3, h4, Ns.up h5⟩
theorem gT_leaves {l : List Int} {k : Nat} (h : k < l.length) : gT (leaves l) k = leaf (gI l k) := by
  simp [gT, leaves, gI, List.getElem?_eq_getElem h]
set_option maxRecDepth 100000 in
set_option maxHeartbeats 2000000 in
theorem tree13 (kd : Int) (B : Option Addr) (bn bc : Nat) (A : Option Addr) (c : Nat) (fs : List (Int × List Int)) (w : World) (h : Pl w (fun k => k < w.heap.size) A fs) (hn : fs.length ≤ 200) :
    Calls Try.prog 13 #[plan kd B bn bc A fs.length c] w (Tv (treeI (wavesI fs)) w) := by
  have h0 := waves_small fs hn
  have hw := fun w' (hb : Below w.heap.size w w') => waves10 kd B bn bc A c fs w' (h.under hb) hn
  have HW := Lib.hid hw; clear hw h
  unfold plan at *
  generalize wavesI fs = ws at *
  have hn0 : ∃ n, n = fs.length := ⟨_, rfl⟩
  obtain ⟨n, hn1⟩ := hn0
  rw [← hn1] at HW hn ⊢
  clear hn1
  have HS := Lib.hid h0.2
  have hlen := h0.1
  clear h0
  have hN0 : ∃ N, N = ws.length := ⟨_, rfl⟩
  obtain ⟨N, hN⟩ := hN0
  rw [← hN] at hlen
  have HN := Lib.hid hN; clear hN
  go_enter Try.func13, Try.ntmps13
  go_wp2_with fail
  refine (HW.out _ (((Below.refl _ _).alloc (Nat.le_refl _) _).alloc (by simp) _)).mono ?_
  rintro e w1 ⟨A1, c1, rfl, hll, hb1⟩
  rw [← HN.out]
  have hbA : Below w.heap.size w w1 := (((Below.refl _ _).alloc (Nat.le_refl _) _).alloc (by simp) _).trans (hb1.mono (by simp; omega))
  have hres : w1.heap[w.heap.size + 1]? = some (.cells #[.int .i64 0, .int .i64 0, .slice none 0 0] 34 (0, 0)) := by
    rw [hb1.block _ (by simp)]
    exact heap_at (by simp)
  have hrs := heap_lt hres
  clear hb1 HW
  have HLL := Lib.hid hll; clear hll
  have HbA := Lib.hid hbA; clear hbA
  have Hres := Lib.hid hres; clear hres
  go_wp2
  go_loopg [3, 12] N (fun j v i wr => ∃ m : Nat, m + j = N ∧ i = .int .i64 m ∧ Below w1.heap.size w1 wr ∧ ∃ A' c' xs, v = .slice A' (stepsT ws m).length c' ∧ wr.ownsRow w1.heap.size 34 3 v (stepsT ws m).length xs ∧ Nd wr (fun k => Kept wr v k ∧ w1.heap.size ≤ k) 1 xs (stepsT ws m))
  case atStart => exact ⟨0, by omega, rfl, Below.refl _ _, by rw [stepsT]; exact ⟨_, _, [], rfl, World.ownsRow_nil _ _ _ _, Nd.nil _ _ _⟩⟩
  case round =>
    obtain ⟨m, hmj, rfl, hb, A', c', xs, rfl, hown, hnd⟩ := hrel
    have Hmm := Lib.hid hmj; have hmn : m ≤ N := by omega
    clear hmj
    have Hb := Lib.hid hb; have Hown := Lib.hid hown; have Hnd := Lib.hid hnd
    clear hb hown hnd
    have htl := stepsT_length ws m
    by_cases hlt : m < N
    · have hst : stepsT ws (m + 1) = stepsT ws m ++ waveN (gL ws m) := by rw [stepsT]
      have Hst := Lib.hid hst; clear hst
      generalize stepsT ws m = ts at *
      obtain ⟨b, off, rfl, hI, hc⟩ := HLL.out.at (by rw [← HN.out]; omega)
      obtain ⟨B2, c2, hcell, hl⟩ := hc m (by rw [← HN.out]; exact hlt)
      clear hc
      have hcw := (Hb.out.cell (p := ⟨b, off + m, none⟩) hI).trans hcell
      have hq2 := HS.out m
      generalize gL ws m = l at *
      have hq : ∃ q, q = l.length := ⟨_, rfl⟩
      obtain ⟨q, hq⟩ := hq
      rw [← hq] at hcw hq2
      have Hq := Lib.hid hq; have Hl := Lib.hid hl
      clear hq hl hcell
      go_wp2
      go_loopg [6, 18] q (fun j o i wr2 => ∃ k : Nat, k + j = q ∧ i = .int .i64 k ∧ Below wr.heap.size wr wr2 ∧ ∃ A2 c2 ys, o = .slice A2 k c2 ∧ wr2.ownsRow wr.heap.size 34 3 o k ys ∧ Nd wr2 (fun _ => False) 0 ys (leaves (l.take k)))
      case atStart => exact ⟨0, by omega, rfl, Below.refl _ _, _, _, [], rfl, World.ownsRow_nil _ _ _ _, Nd.nil _ _ _⟩
      case round =>
        obtain ⟨k, hkj, rfl, hb2, A2, c3, ys, rfl, hown2, hnd2⟩ := hrel
        have Hkj := Lib.hid hkj; have hkq : k ≤ q := by omega
        clear hkj
        have Hown2 := Lib.hid hown2; have Hnd2 := Lib.hid hnd2
        clear hown2 hnd2
        by_cases hltk : k < q
        · obtain ⟨b3, off3, rfl, hI3, hc3⟩ := Hl.out.at (by rw [← Hq.out]; omega)
          have hcell := hc3 k (by rw [← Hq.out]; exact hltk)
          have hb3 := Hb.out.trans (hb2.mono Hb.out.size)
          have hcw2 := (hb3.cell (p := ⟨b3, off3 + k, none⟩) hI3).trans hcell
          clear hc3 hcell hb3
          go_wp2_with (at_builtin; refine append_new (o := ⟨some 26, _, _, _, _, _⟩) rfl (.tmp 22) (.tmp 25) 32 rfl _ 34 _ 3 40 Try.underlying32 nodeinfo rfl (by decide) _ _ _ Hown2.out #[.int .i64 1, .int .i64 (gI l k), .slice none 0 0] 1 rfl rfl rfl rfl (by simp only [maxLen]; omega) (by omega) hb2.size ?_; intro v' w' hown' hg' hsz' hat' hsh')
          obtain ⟨g', c'', rfl⟩ := hsh' (by omega)
          go_wp2
          go_roundg (q - k - 1)
          case measure => have := Hkj.out; omega
          case rel =>
            refine ⟨k + 1, by have := Hkj.out; omega, by go_num, hb2.grown hg' hb2.size (fun y hy => (Hown2.out.lt y hy).1), _, _, _, rfl, hown', ?_⟩
            have hlk : leaves (l.take (k + 1)) = leaves (l.take k) ++ [leaf (gI l k)] := leaves_snoc (by rw [← Hq.out]; exact hltk)
            rw [hlk]
            exact (Hnd2.out.turn fun _ h => h.elim).snoc (t := leaf (gI l k)) (B := none) (c := 0) rfl (Nat.zero_le _)
        · obtain rfl : k = q := by omega
          have hown3 := own_turn Hown.out (fun g hg => hb2.block g (Hown.out.lt g hg).2)
          have hnd3 := Hnd.out.turn (w' := wr) (J := fun k => Kept wr (.slice A' ts.length c') k ∧ w1.heap.size ≤ k) (fun g hg => ⟨hb2.block g hg.1.1, ⟨Nat.lt_of_lt_of_le hg.1.1 hb2.size, hg.1.2⟩, hg.2⟩)
          have Hown3 := Lib.hid hown3; have Hnd3 := Lib.hid hnd3
          have hb3 := Hb.out.trans (hb2.mono Hb.out.size)
          have Hb3 := Lib.hid hb3
          have hbs := hb3.size
          clear hown3 hnd3 hb3
          have hkl : leaves (l.take k) = leaves l := by rw [Hq.out, List.take_length]
          have hll : (leaves l).length = k := by rw [Hq.out]; simp [leaves]
          have hnd4 := Hnd2.out
          rw [hkl] at hnd4
          have Hnd4 := Lib.hid hnd4; have Hll := Lib.hid hll
          clear hnd4 hll hkl
          by_cases k0 : k = 0
          · have hw0 : waveN l = [] := by unfold waveN; rw [← Hq.out, if_pos k0]
            have Hw0 := Lib.hid hw0; clear hw0
            subst k0
            go_wp2
            go_roundg (N - m - 1)
            case measure => have := Hmm.out; omega
            case rel =>
              refine ⟨m + 1, by have := Hmm.out; omega, by go_num, Hb3.out, ?_⟩
              rw [Hst.out, Hw0.out, List.append_nil]
              exact ⟨_, _, _, rfl, Hown3.out, Hnd3.out⟩
          by_cases k1 : k = 1
          · have hw1 : waveN l = [leaf (gI l 0)] := by unfold waveN; rw [← Hq.out, if_neg k0, if_pos k1]
            have Hw1 := Lib.hid hw1; clear hw1
            obtain ⟨g2, hA2, _, hg2, hg2s, hc2⟩ := own_cellAt3 Hown2.out rfl (by omega)
            subst hA2
            obtain ⟨B5, c5, h1, h2, h3, _, _⟩ := Hnd4.out.2 0 (by rw [Hll.out]; omega)
            rw [gT_leaves (by rw [← Hq.out]; omega)] at h1 h2 h3
            have d0 : wr.cell? ⟨g2, 0, none⟩ = some (.int .i64 1) := hc2 _ _ h1
            have d1 : wr.cell? ⟨g2, 1, none⟩ = some (.int .i64 (gI l 0)) := hc2 _ _ h2
            have d2 : wr.cell? ⟨g2, 2, none⟩ = some (.slice B5 0 c5) := hc2 _ _ h3
            clear hc2 h1 h2 h3
            subst k1
            go_wp2_with (at_builtin; refine append_new (o := ⟨some 44, _, _, _, _, _⟩) rfl (.tmp 39) (.tmp 43) 32 rfl w1.heap.size 34 _ 3 40 Try.underlying32 nodeinfo rfl (by decide) _ _ _ Hown3.out #[.int .i64 1, .int .i64 (gI l 0), .slice B5 0 c5] 1 rfl rfl rfl rfl (by simp only [maxLen]; omega) (by omega) hbs ?_; intro v' w' hown' hg' hsz' hat' hsh')
            obtain ⟨g', c'', rfl⟩ := hsh' (by omega)
            go_wp2
            go_roundg (N - m - 1)
            case measure => have := Hmm.out; omega
            case rel =>
              refine ⟨m + 1, by have := Hmm.out; omega, by go_num, Hb3.out.grown hg' hbs (fun y hy => (Hown3.out.lt y hy).1), ?_⟩
              rw [Hst.out, Hw1.out, List.length_append]
              refine ⟨_, _, _, rfl, hown', ?_⟩
              exact (Hnd3.out.snoc (t := leaf (gI l 0)) (B := B5) (c := c5) (fun h => by simp [leaf, Tree.list] at h) (by simp [leaf, Tree.list])).turn (fun g hg => ⟨(hg.1.grown hg' hat').1, (hg.1.grown hg' hat').2, hg.2⟩)
          · have hw2 : waveN l = [.node 3 0 (leaves l)] := by unfold waveN; rw [← Hq.out, if_neg k0, if_neg k1]
            have Hw2 := Lib.hid hw2; clear hw2
            have e0 : ((k : Int) == 0) = false := by simp; omega
            have e1 : ((k : Int) == 1) = false := by simp; omega
            have hns : Ns wr (fun k => Kept wr (.slice A' ts.length c') k ∧ w1.heap.size ≤ k) 1 A2 (leaves l) := by
              refine own_Ns (c := c3) (by rw [Hll.out]; exact Hown2.out) (by rw [Hll.out]) (Hnd4.out.turn fun _ h => h.elim) (fun g hg hgo => ⟨⟨hg, fun e => ?_⟩, Nat.le_trans Hb.out.size (Hown2.out.lt g hgo.symm).1⟩)
              have h1 := (Hown2.out.lt g hgo.symm).1
              have h2 := (Hown.out.lt g e.symm).2
              omega
            have Hns := Lib.hid hns; clear hns
            go_wp2_with (at_builtin; refine append_new (o := ⟨some 34, _, _, _, _, _⟩) rfl (.tmp 30) (.tmp 33) 32 rfl w1.heap.size 34 _ 3 40 Try.underlying32 nodeinfo rfl (by decide) _ _ _ Hown3.out #[.int .i64 3, .int .i64 0, .slice A2 k c3] 1 rfl rfl rfl rfl (by simp only [maxLen]; omega) (by omega) hbs ?_; intro v' w' hown' hg' hsz' hat' hsh')
            obtain ⟨g', c'', rfl⟩ := hsh' (by omega)
            go_wp2
            go_roundg (N - m - 1)
            case measure => have := Hmm.out; omega
            case rel =>
              refine ⟨m + 1, by have := Hmm.out; omega, by go_num, Hb3.out.grown hg' hbs (fun y hy => (Hown3.out.lt y hy).1), ?_⟩
              rw [Hst.out, Hw2.out, List.length_append]
              refine ⟨_, _, _, rfl, hown', ?_⟩
              have := (Hnd3.out.snoc (t := .node 3 0 (leaves l)) (B := A2) (c := c3) Hns.out (by show (leaves l).length ≤ _; rw [Hll.out]; omega)).turn (w' := w') (J := fun k => Kept w' (.slice (some ⟨g', 0, none⟩) (ts.length + 1) c'') k ∧ w1.heap.size ≤ k) (fun g hg => ⟨(hg.1.grown hg' hat').1, (hg.1.grown hg' hat').2, hg.2⟩)
              rw [show (Tree.node 3 0 (leaves l)).list.length = k from Hll.out] at this
              exact this
    · obtain rfl : m = N := by omega
      have hT : treeI ws = treeOf (stepsT ws m) := by unfold treeI; rw [← HN.out]
      have HT := Lib.hid hT; clear hT
      generalize stepsT ws m = ts at *
      have hrh := (Hb.out.block _ hrs).trans Hres.out
      have r0 : wr.cell? ⟨w.heap.size + 1, 0, none⟩ = some (.int .i64 0) := cell_heap hrh rfl
      have r1 : wr.cell? ⟨w.heap.size + 1, 1, none⟩ = some (.int .i64 0) := cell_heap hrh rfl
      have r2 : wr.cell? ⟨w.heap.size + 1, 2, none⟩ = some (.slice none 0 0) := cell_heap hrh rfl
      have f0 := frozen_heap (o := 0) hrh
      have f1 := frozen_heap (o := 1) hrh
      have f2 := frozen_heap (o := 2) hrh
      have hbE := HbA.out.trans (Hb.out.mono HbA.out.size)
      have HbE := Lib.hid hbE
      have hrh2 := hrh
      clear hrh hbE
      by_cases t0 : ts.length = 0
      · have hq : treeOf ts = .node 0 0 [] := by unfold treeOf; rw [if_pos t0]
        have Hq := Lib.hid hq; clear hq
        have Hfin := Lib.hid (fin3 (x0 := .int .i64 0) (x1 := .int .i64 0) (x2 := .slice none 0 0) hrh2)
        clear hrh2
        go_wp2
        refine bodyPost_ret (results_cell_row rfl _ _ (w.heap.size + 1) 34 _ (0, 0) _ rfl Hfin.out Try.underlying34 rfl (by kernel_rfl)) rfl ?_
        exact ⟨none, 0, by rw [HT.out, Hq.out]; rfl, by rw [HT.out, Hq.out]; exact fun h => by simp [Tree.list] at h, ((HbE.out.setCell (by simp) _).setCell (by simp) _).setCell (by simp) _⟩
      by_cases t1 : ts.length = 1
      · have hq : treeOf ts = gT ts 0 := by unfold treeOf; rw [if_neg t0, if_pos t1]
        have Hq := Lib.hid hq; clear hq
        obtain ⟨g2, hA2, _, hg2, hg2s, hc2⟩ := own_cellAt3 Hown.out rfl (by omega)
        subst hA2
        obtain ⟨B5, c5, h1, h2, h3, _, h5⟩ := Hnd.out.2 0 (by omega)
        have d0 : wr.cell? ⟨g2, 0, none⟩ = some (.int .i64 (gT ts 0).kind) := hc2 _ _ h1
        have d1 : wr.cell? ⟨g2, 1, none⟩ = some (.int .i64 (gT ts 0).fetch) := hc2 _ _ h2
        have d2 : wr.cell? ⟨g2, 2, none⟩ = some (.slice B5 (gT ts 0).list.length c5) := hc2 _ _ h3
        have H5 := Lib.hid h5
        have T1 := Lib.hid t1
        have tl : ((ts.length : Int) == 0) = false := by simp [t1]
        have tl1 : ((ts.length : Int) == 1) = true := by simp [t1]
        clear hc2 h1 h2 h3 h5
        have Hfin := Lib.hid (fin3 (x0 := .int .i64 (gT ts 0).kind) (x1 := .int .i64 (gT ts 0).fetch) (x2 := .slice B5 (gT ts 0).list.length c5) hrh2)
        clear hrh2
        go_wp2
        refine bodyPost_ret (results_cell_row rfl _ _ (w.heap.size + 1) 34 _ (0, 0) _ rfl Hfin.out Try.underlying34 rfl (by kernel_rfl)) rfl ?_
        refine ⟨B5, c5, by rw [HT.out, Hq.out]; rfl, ?_, ((HbE.out.setCell (by simp) _).setCell (by simp) _).setCell (by simp) _⟩
        rw [HT.out, Hq.out]
        exact Ns.up (Ns.mono (fun k hk => by simpa [World.setCell] using hk.1.1) (Ns.same (fun k hk => set3 (by have := hk.2; omega)) H5.out))
      · have hq : treeOf ts = .node 2 0 ts := by unfold treeOf; rw [if_neg t0, if_neg t1]
        have Hq := Lib.hid hq; clear hq
        have tl : ((ts.length : Int) == 0) = false := beq_false_of_ne (by omega)
        have tl1 : ((ts.length : Int) == 1) = false := beq_false_of_ne (by omega)
        have hns := own_Ns Hown.out rfl (J := fun k => w1.heap.size ≤ k ∧ k < wr.heap.size) (Hnd.out.turn (fun g hg => ⟨rfl, hg.2, hg.1.1⟩)) (fun g hg hgo => ⟨(Hown.out.lt g hgo.symm).1, hg⟩)
        have Hns := Lib.hid hns; clear hns
        have Hfin := Lib.hid (fin3 (x0 := .int .i64 2) (x1 := .int .i64 0) (x2 := .slice A' ts.length c') hrh2)
        clear hrh2
        go_wp2
        refine bodyPost_ret (results_cell_row rfl _ _ (w.heap.size + 1) 34 _ (0, 0) _ rfl Hfin.out Try.underlying34 rfl (by kernel_rfl)) rfl ?_
        refine ⟨A', c', by rw [HT.out, Hq.out]; rfl, ?_, ((HbE.out.setCell (by simp) _).setCell (by simp) _).setCell (by simp) _⟩
        rw [HT.out, Hq.out]
        exact Ns.mono (fun k hk => by simpa [World.setCell] using hk.2) (Ns.same (fun k hk => set3 (by have := hk.1; omega)) Hns.out)
end Go.Proofs.Ytkldeelhlbhlmaa
