/- When each fetch ends, in the reference's text. -/
import Derived.Test.YtkldeelhlbhlmaaD
namespace Go.Proofs.Ytkldeelhlbhlmaa
open Go.RowKit
attribute [local irreducible] wpList Calls Code.wp beg fin timeT
/-- a slice that a call owns reads as its list -/
theorem own_is {w : World} {B e : Nat} {v : Value} {n : Nat} {l : List Int} {A : Option Addr} {c : Nat} (h : w.ownsRow B e 1 v n (ints .i64 l)) (hl : l.length = n) (hv : v = .slice A n c) : Is w (fun k => k < w.heap.size) A l := by
  subst hv
  refine ⟨by simp [ints_length], fun hn => ?_⟩
  rcases h.2 with ⟨_, h0⟩ | ⟨g, cap, cur, hv, hg, r⟩
  · omega
  · simp only [Value.slice.injEq] at hv
    obtain ⟨rfl, -, rfl⟩ := hv
    refine ⟨g, 0, rfl, (h.lt g rfl).2, fun j u hu => ?_⟩
    have hj : j < n := by have := (List.getElem?_eq_some_iff.1 hu).1; simp [ints_length] at this; omega
    rw [Nat.zero_add, h.cellAt j (by omega)]
    exact hu
set_option maxRecDepth 100000 in
set_option maxHeartbeats 2000000 in
theorem time21 (kd : Int) (B : Option Addr) (bn bc : Nat) (A : Option Addr) (c : Nat) (fs : List (Int × List Int)) (T : Option Addr) (tc : Nat) (takes : List Int) (w : World) (h : Pl w (fun k => k < w.heap.size) A fs) (ht : Is w (fun k => k < w.heap.size) T takes)
    (hn : fs.length ≤ 200) (htn : takes.length ≤ 9223372036854775807) :
    Calls Try.prog 21 #[plan kd B bn bc A fs.length c, .slice T takes.length tc] w (Li (timeI fs takes) w) := by
  have H := Lib.hid h; clear h
  have HT := Lib.hid ht; clear ht
  have hq := timeT_length fs takes fs.length
  have HL := Lib.hid (show (timeI fs takes).length = fs.length from hq); clear hq
  have hn0 : ∃ n, n = fs.length := ⟨_, rfl⟩
  obtain ⟨n, hn1⟩ := hn0
  unfold plan
  rw [← hn1] at hn ⊢
  have Hn1 := Lib.hid hn1; clear hn1
  have hn2 : ∃ tn, tn = takes.length := ⟨_, rfl⟩
  obtain ⟨tn, hn3⟩ := hn2
  rw [← hn3] at htn ⊢
  have Hn3 := Lib.hid hn3; clear hn3
  go_enter Try.func21, Try.ntmps21
  go_wp2
  go_loopg [5, 6] n (fun j v i wr => ∃ m : Nat, m + j = n ∧ i = .int .i64 m ∧ Below w.heap.size w wr ∧ wr.cell? ⟨w.heap.size, 2, none⟩ = some (.slice A n c) ∧ wr.ownsRow (w.heap.size + 1) 3 1 v m (ints .i64 (timeT fs takes m)) ∧ ∃ A' c', v = .slice A' m c')
  case atStart =>
    exact ⟨0, by omega, rfl, (Below.refl _ _).alloc (Nat.le_refl _) _, cell_of_row _ _ _ _ _ _ (heap_at rfl), by rw [timeT]; exact World.ownsRow_nil _ _ _ _, _, _, rfl⟩
  case round =>
    obtain ⟨x, hmj, rfl, hb, hbx, hown, A', c', rfl⟩ := hrel
    have Hmj := Lib.hid hmj; have hmn : x ≤ n := by omega
    clear hmj
    have hTl := timeT_length fs takes x
    have hTr := time_range fs takes x
    have HTr := Lib.hid hTr
    clear hTr
    generalize hTe : timeT fs takes x = T1 at *
    have HTe := Lib.hid hTe; clear hTe
    have hrd := own_is hown hTl rfl
    have Hown := Lib.hid hown; clear hown
    have HR := Lib.hid hrd; clear hrd
    by_cases hlt : x < n
    · obtain ⟨b, off, rfl, hI, hc⟩ := H.out (by rw [← Hn1.out]; omega)
      obtain ⟨g, P, pn, pc, s, K, kn, kc, y, Q, qn, qc, B2, c2, h0, h1, h2, h3, h4, h5, h6, h7, hi, hl, hr1, hr2⟩ := hc x (by rw [← Hn1.out]; exact hlt)
      have e7 := (hb.cell (p := ⟨b, off + x * 8 + 7, none⟩) hI).trans h7
      clear hc h0 h1 h2 h3 h4 h5 h6 h7 hr1 hr2
      generalize hl2 : (gF fs x).2 = l at *
      have Hl2 := Lib.hid hl2; clear hl2
      have hq : ∃ q, q = l.length := ⟨_, rfl⟩
      obtain ⟨q, hq⟩ := hq
      rw [← hq] at hl e7
      have Hq := Lib.hid hq; clear hq
      have HI2 := Lib.hid hi; clear hi
      go_wp2
      go_loopg [7, 9] q (fun j o i w2 => ∃ k : Nat, k + j = q ∧ i = .int .i64 k ∧ o = .int .i64 (beg T1 l k) ∧ w2 = wr)
      case atStart => exact ⟨0, by omega, rfl, by rw [beg_zero], rfl⟩
      case round =>
        obtain ⟨k, hkj, rfl, rfl, rfl⟩ := hrel
        have Hkj := Lib.hid hkj; have hkq : k ≤ q := by omega
        clear hkj
        by_cases hltk : k < q
        · obtain ⟨b2, off2, rfl, hI2, hc2⟩ := HI2.out.at (by rw [← Hq.out]; omega)
          have hcell : wr.cell? ⟨b2, off2 + k, none⟩ = some (.int .i64 (gI l k)) := (hb.cell (p := ⟨b2, off2 + k, none⟩) hI2).trans (hc2 k (by rw [← Hq.out]; exact hltk))
          clear hc2
          generalize hv : gI l k = v at *
          have Hv := Lib.hid hv; clear hv
          by_cases hv0 : 0 ≤ v
          · by_cases hvx : v < (x : Int)
            · obtain ⟨b4, off4, rfl, hI4, hc4⟩ := HR.out.at (by rw [hTl]; omega)
              have cv := hc4 v.toNat (by rw [hTl]; omega)
              clear hc4
              have hstep := beg_yes (T := T1) (k := k) Hv.out (by rw [hTl]) hv0 hvx
              have Hstep := Lib.hid hstep; clear hstep
              go_wp2
              all_goals
                go_roundg (gk - 1)
                case measure => have := Hkj.out; omega
                case rel =>
                  refine ⟨k + 1, by have := Hkj.out; omega, by go_num, ?_, rfl⟩
                  rw [Hstep.out]; congr 1; omega
            · have hstep := beg_no (T := T1) (l := l) (k := k) (by rw [Hv.out, hTl]; omega)
              have Hstep := Lib.hid hstep; clear hstep
              go_wp2
              go_roundg (gk - 1)
              case measure => have := Hkj.out; omega
              case rel => exact ⟨k + 1, by have := Hkj.out; omega, by go_num, by rw [Hstep.out], rfl⟩
          · have hstep := beg_no (T := T1) (l := l) (k := k) (by rw [Hv.out, hTl]; omega)
            have Hstep := Lib.hid hstep; clear hstep
            go_wp2
            go_roundg (gk - 1)
            case measure => have := Hkj.out; omega
            case rel => exact ⟨k + 1, by have := Hkj.out; omega, by go_num, by rw [Hstep.out], rfl⟩
        · obtain rfl : k = q := by omega
          have hTs : timeT fs takes (x + 1) = T1 ++ [fin takes x (beg T1 l k)] := by
            rw [timeT, HTe.out, Hl2.out, Hq.out]
          have HTs := Lib.hid hTs; clear hTs
          have hbr := beg_range (l := l) HTr.out k
          have hsz : w.heap.size + 1 ≤ wr.heap.size := Nat.succ_le_of_lt (block_lt_of_cell hbx)
          by_cases hxt : x < tn
          · have hfin2 : fin takes x (beg T1 l k) = wrap64 (beg T1 l k + min (max (gI takes x) 0) 1099511627776) := by
              unfold fin; rw [if_pos (by rw [← Hn3.out]; exact hxt)]
            rw [hfin2] at HTs
            clear hfin2
            obtain ⟨b3, off3, rfl, hI3, hc3⟩ := HT.out.at (by rw [← Hn3.out]; omega)
            have hcell : wr.cell? ⟨b3, off3 + x, none⟩ = some (.int .i64 (gI takes x)) := (hb.cell (p := ⟨b3, off3 + x, none⟩) hI3).trans (hc3 x (by rw [← Hn3.out]; exact hxt))
            clear hc3
            have hvv : ∃ vv, vv = wrap64 (beg T1 l k + min (max (gI takes x) 0) 1099511627776) := ⟨_, rfl⟩
            obtain ⟨vv, hvv⟩ := hvv
            rw [← hvv] at HTs
            have Hvv := Lib.hid hvv; clear hvv
            go_wp2_with (at_builtin; refine append_new (o := ⟨some 67, _, _, _, _, _⟩) rfl (.tmp 62) (.tmp 66) 31 rfl (w.heap.size + 1) 3 _ 1 8 Try.underlying31 intinfo rfl (by decide) _ _ _ Hown.out _ 1 rfl rfl rfl rfl (by simp only [maxLen]; omega) (by omega) hsz ?_; intro v' w' hown' hg' hsz' hat' hsh')
            all_goals
              obtain ⟨g', c'', rfl⟩ := hsh' (by omega)
              go_wp2
              go_roundg (n - x - 1)
              case measure => have := Hmj.out; omega
              case rel =>
                refine ⟨x + 1, by have := Hmj.out; omega, by go_num, hb.grown hg' (by omega) (fun y hy => by have := (Hown.out.lt y hy).1; omega), ?_, ?_, _, _, rfl⟩
                · rw [World.cell?_of_block (w := wr) (hg'.block _ (block_lt_of_cell hbx) (fun e => by have h1 : w.heap.size + 1 ≤ w.heap.size := (Hown.out.lt _ e.symm).1; omega))]
                  exact hbx
                · rw [HTs.out, ints_append]
                  refine Eq.mp ?_ hown'
                  congr 2
                  simp only [ints, List.map_cons, List.map_nil]
                  congr 2
                  rw [Hvv.out]
                  congr 1
                  omega
          · have hfin2 : fin takes x (beg T1 l k) = beg T1 l k := by
              unfold fin; rw [if_neg (by rw [← Hn3.out]; exact hxt)]
            rw [hfin2] at HTs
            clear hfin2
            have hw0 : wrap64 (beg T1 l k) = beg T1 l k := wrap_in ⟨by omega, by omega⟩
            go_wp2_with (at_builtin; refine append_new (o := ⟨some 67, _, _, _, _, _⟩) rfl (.tmp 62) (.tmp 66) 31 rfl (w.heap.size + 1) 3 _ 1 8 Try.underlying31 intinfo rfl (by decide) _ _ _ Hown.out _ 1 rfl rfl rfl rfl (by simp only [maxLen]; omega) (by omega) hsz ?_; intro v' w' hown' hg' hsz' hat' hsh')
            all_goals
              obtain ⟨g', c'', rfl⟩ := hsh' (by omega)
              go_wp2
              go_roundg (n - x - 1)
              case measure => have := Hmj.out; omega
              case rel =>
                refine ⟨x + 1, by have := Hmj.out; omega, by go_num, hb.grown hg' (by omega) (fun y hy => by have := (Hown.out.lt y hy).1; omega), ?_, ?_, _, _, rfl⟩
                · rw [World.cell?_of_block (w := wr) (hg'.block _ (block_lt_of_cell hbx) (fun e => by have h1 : w.heap.size + 1 ≤ w.heap.size := (Hown.out.lt _ e.symm).1; omega))]
                  exact hbx
                · rw [HTs.out, ints_append]
                  exact hown'
    · have hx : x = n := by omega
      go_wp2
      go_ret
      have hT : timeI fs takes = T1 := by unfold timeI; rw [← HTe.out, ← Hn1.out, hx]
      refine ⟨A', c', ?_, ?_, hb⟩
      · rw [hT, hTl]; rfl
      · rw [hT]; exact HR.out
end Go.Proofs.Ytkldeelhlbhlmaa
