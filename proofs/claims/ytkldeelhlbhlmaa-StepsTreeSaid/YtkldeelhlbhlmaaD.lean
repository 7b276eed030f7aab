/- When each fetch ends, in both texts. -/
import Derived.Test.YtkldeelhlbhlmaaB
namespace Go.Proofs.Ytkldeelhlbhlmaa
open Go.RowKit
attribute [local irreducible] wpList Calls Code.wp
/-- the latest end of the first k fetches of a list, of those that T knows -/
def beg (T l : List Int) : Nat → Int
  | 0 => 0
  | k + 1 => if 0 ≤ gI l k ∧ gI l k < T.length then max (beg T l k) (gI T (gI l k).toNat) else beg T l k
def fin (takes : List Int) (i : Nat) (b : Int) : Int := if i < takes.length then wrap64 (b + min (max (gI takes i) 0) 1099511627776) else b
def timeT (fs : List (Int × List Int)) (takes : List Int) : Nat → List Int
  | 0 => []
  | i + 1 => timeT fs takes i ++ [fin takes i (beg (timeT fs takes i) (gF fs i).2 (gF fs i).2.length)]
theorem timeT_length (fs : List (Int × List Int)) (takes : List Int) (i : Nat) : (timeT fs takes i).length = i := by
  induction i with
  | zero => rfl
  | succ i ih => simp [timeT, ih]
def timeI (fs : List (Int × List Int)) (takes : List Int) : List Int := timeT fs takes fs.length
theorem beg_zero (T l : List Int) : beg T l 0 = 0 := rfl
theorem beg_yes {T l : List Int} {k : Nat} {x n : Int} (hx : gI l k = x) (hn : (T.length : Int) = n) (h0 : 0 ≤ x) (h : x < n) : beg T l (k + 1) = max (beg T l k) (gI T x.toNat) := by
  subst hx; subst hn; rw [beg, if_pos ⟨h0, h⟩]
theorem beg_no {T l : List Int} {k : Nat} (h : ¬ (0 ≤ gI l k ∧ gI l k < T.length)) : beg T l (k + 1) = beg T l k := by
  rw [beg, if_neg h]
def In64 (x : Int) : Prop := -9223372036854775808 ≤ x ∧ x ≤ 9223372036854775807
theorem wrap_in {x : Int} (h : In64 x) : wrap64 x = x := IntWalk.wrap64_in x h
theorem wrap64_range (x : Int) : In64 (wrap64 x) := by
  have := RowKit.wrap64_wf x
  simp only [Lit.wf, Bool.and_eq_true, decide_eq_true_eq] at this
  exact ⟨this.1, this.2⟩
theorem beg_range {T l : List Int} (hT : ∀ j, In64 (gI T j)) (k : Nat) : 0 ≤ beg T l k ∧ beg T l k ≤ 9223372036854775807 := by
  induction k with
  | zero => rw [beg_zero]; omega
  | succ k ih =>
    rw [beg]
    have := hT (gI l k).toNat
    unfold In64 at this
    split <;> omega
theorem gI_none {l : List Int} {j : Nat} (h : l.length ≤ j) : gI l j = 0 := by simp [gI, List.getElem?_eq_none h]
theorem time_range (fs : List (Int × List Int)) (takes : List Int) (i : Nat) : ∀ j, In64 (gI (timeT fs takes i) j) := by
  induction i with
  | zero => intro j; rw [timeT, gI_none (by simp)]; unfold In64; omega
  | succ i ih =>
    intro j
    rw [timeT, gI_snoc]
    split
    · unfold fin
      have h1 := wrap64_range (beg (timeT fs takes i) (gF fs i).2 (gF fs i).2.length + min (max (gI takes i) 0) 1099511627776)
      have h2 := beg_range (l := (gF fs i).2) ih (gF fs i).2.length
      split
      · exact h1
      · unfold In64; omega
    · exact ih j
/-- the row while fetch m is looked at: its beginning so far stands at m -/
def rowF (T l : List Int) (m k : Nat) (j : Nat) : Value := .int .i64 (if j = m then beg T l k else gI T j)
theorem intinfo : (Try.prog.info? 3).map (fun i => (i.zero, i.size, i.bytes)) = some (some (.int .i64 0), 1, 8) := by kernel_rfl
/-- a slice of ints comes back, of which nothing was there -/
def Li (l : List Int) (w : World) (e : Ending) (w' : World) : Prop := ∃ A c, e = .returned (.slice A l.length c) ∧ Is w' (fun k => k < w'.heap.size) A l ∧ Below w.heap.size w w'
attribute [local irreducible] beg fin timeT
set_option maxRecDepth 100000 in
set_option maxHeartbeats 2000000 in
theorem time20 (kd : Int) (B : Option Addr) (bn bc : Nat) (A : Option Addr) (c : Nat) (fs : List (Int × List Int)) (T : Option Addr) (tc : Nat) (takes : List Int) (w : World) (h : Pl w (fun k => k < w.heap.size) A fs) (ht : Is w (fun k => k < w.heap.size) T takes)
    (hn : fs.length ≤ 200) (htn : takes.length ≤ 9223372036854775807) :
    Calls Try.prog 20 #[plan kd B bn bc A fs.length c, .slice T takes.length tc] w (Li (timeI fs takes) w) := by
  have H := Lib.hid h; clear h
  have HT := Lib.hid ht; clear ht
  have hq := timeT_length fs takes fs.length
  have HL := Lib.hid (show (timeI fs takes).length = fs.length from hq); clear hq
  have hn0 : ∃ n, n = fs.length := ⟨_, rfl⟩
  obtain ⟨n, hn1⟩ := hn0
  unfold plan
  rw [← hn1] at hn ⊢
  have Hn1 := Lib.hid hn1; clear hn1
  have hn2 : ∃ tn, tn = takes.length := ⟨_, rfl⟩
  obtain ⟨tn, hn3⟩ := hn2
  rw [← hn3] at htn ⊢
  have Hn3 := Lib.hid hn3; clear hn3
  obtain ⟨i3, hi3, z3, s3, b3⟩ := info3 intinfo
  go_enter Try.func20, Try.ntmps20
  go_wp2_with (refine wpList_make_row _ rfl _ _ 31 rfl 3 i3 _ Try.underlying31 hi3 z3 s3 rfl .i64 .i64 n rfl rfl (by rw [b3]; omega) (by omega) ?_)
  have hz : (madeCells #[Value.int .i64 0] n) = Array.replicate n (.int .i64 0) := by
    apply Array.ext
    · simp [madeCells]
    · intro i h1 h2; simp [madeCells, Nat.mod_one]
  go_loopg [17] n (fun j i wr => ∃ m : Nat, m + j = n ∧ i = .int .i64 m ∧ Below w.heap.size w wr ∧ wr.rowIs (w.heap.size + 1) 3 n (fun j => .int .i64 (gI (timeT fs takes m) j)))
  case atStart =>
    refine ⟨0, by omega, rfl, ((Below.refl _ _).alloc (Nat.le_refl _) _).alloc (by simp) _, ?_⟩
    rw [timeT]
    have := zeros_row (w := w.alloc (.cells #[.int .i64 kd, .slice B bn bc, .slice A n c] 25)) (t := 3) (b := w.heap.size + 1) (by simp) hz
    exact this.congr (fun j _ => by rw [gI_none (by simp)])
  case round =>
    obtain ⟨x, hmj, rfl, hb, hr⟩ := hrel
    have Hmj := Lib.hid hmj; have hmn : x ≤ n := by omega
    clear hmj
    have hTl := timeT_length fs takes x
    have hTr := time_range fs takes x
    have HTr := Lib.hid hTr
    clear hTr
    generalize hTe : timeT fs takes x = T1 at *
    have HTe := Lib.hid hTe; clear hTe
    by_cases hlt : x < n
    · obtain ⟨b, off, rfl, hI, hc⟩ := H.out (by rw [← Hn1.out]; omega)
      obtain ⟨g, P, pn, pc, s, K, kn, kc, y, Q, qn, qc, B2, c2, h0, h1, h2, h3, h4, h5, h6, h7, hi, hl, hr1, hr2⟩ := hc x (by rw [← Hn1.out]; exact hlt)
      have e0 := (hb.cell (p := ⟨b, off + x * 8, none⟩) hI).trans h0
      have e1 := (hb.cell (p := ⟨b, off + x * 8 + 1, none⟩) hI).trans h1
      have e2 := (hb.cell (p := ⟨b, off + x * 8 + 2, none⟩) hI).trans h2
      have e3 := (hb.cell (p := ⟨b, off + x * 8 + 3, none⟩) hI).trans h3
      have e4 := (hb.cell (p := ⟨b, off + x * 8 + 4, none⟩) hI).trans h4
      have e5 := (hb.cell (p := ⟨b, off + x * 8 + 5, none⟩) hI).trans h5
      have e6 := (hb.cell (p := ⟨b, off + x * 8 + 6, none⟩) hI).trans h6
      have e7 := (hb.cell (p := ⟨b, off + x * 8 + 7, none⟩) hI).trans h7
      clear hc h0 h1 h2 h3 h4 h5 h6 h7 hr1 hr2
      generalize hl2 : (gF fs x).2 = l at *
      have Hl2 := Lib.hid hl2; clear hl2
      have hq : ∃ q, q = l.length := ⟨_, rfl⟩
      obtain ⟨q, hq⟩ := hq
      rw [← hq] at hl e7
      have Hq := Lib.hid hq; clear hq
      have HI2 := Lib.hid hi; clear hi
      go_wp2
      go_loopg [25] q (fun j i w2 => ∃ k : Nat, k + j = q ∧ i = .int .i64 k ∧ Below w.heap.size w w2 ∧ w2.rowIs (w.heap.size + 1) 3 n (rowF T1 l x k))
      case atStart =>
        refine ⟨0, by omega, rfl, hb.alloc hb.size _, (hr.alloc _).congr (fun j _ => ?_)⟩
        unfold rowF
        rw [beg_zero]
        split
        · rename_i h; rw [h, gI_none (by omega)]
        · rfl
      case round =>
        clear hb hr
        obtain ⟨k, hkj, rfl, hb, hr⟩ := hrel
        have Hkj := Lib.hid hkj; have hkq : k ≤ q := by omega
        clear hkj
        by_cases hltk : k < q
        · obtain ⟨b2, off2, rfl, hI2, hc2⟩ := HI2.out.at (by rw [← Hq.out]; omega)
          have hcell : wr.cell? ⟨b2, off2 + k, none⟩ = some (.int .i64 (gI l k)) := (hb.cell (p := ⟨b2, off2 + k, none⟩) hI2).trans (hc2 k (by rw [← Hq.out]; exact hltk))
          clear hc2
          generalize hv : gI l k = v at *
          have Hv := Lib.hid hv; clear hv
          by_cases hv0 : 0 ≤ v
          · by_cases hvx : v < (x : Int)
            · have hvn : v.toNat < n := by omega
              have hvx2 : ¬ v.toNat = x := by omega
              have hvn2 : v < (n : Int) := by omega
              have hxn2 : (x : Int) < (n : Int) := by omega
              have cx : wr.cell? ⟨w.heap.size + 1, x, none⟩ = some (.int .i64 (beg T1 l k)) := by
                rw [hr.cell hlt]; simp [rowF]
              have cv : wr.cell? ⟨w.heap.size + 1, v.toNat, none⟩ = some (.int .i64 (gI T1 v.toNat)) := by
                rw [hr.cell hvn]; simp [rowF, hvx2]
              have fx := hr.frozen x
              have Hr := Lib.hid hr
              have Hb := Lib.hid hb
              clear hr hb
              have hstep := beg_yes (T := T1) (k := k) Hv.out (by rw [hTl]) hv0 hvx
              have Hstep := Lib.hid hstep; clear hstep
              go_wp2_with fail
              go_region
              clear cx cv fx
              go_wp2
              all_goals
                go_roundg (gk - 1)
                case measure => have := Hkj.out; omega
                case rel =>
                  refine ⟨k + 1, by have := Hkj.out; omega, by go_num, (Hb.out.setCell (by simp) _).drew, ((Hr.out.set x _).drew).congr (fun j hj => ?_)⟩
                  unfold rowF
                  rw [Hstep.out]
                  by_cases hjx : j = x
                  · rw [if_pos hjx, if_pos hjx]; congr 1; omega
                  · rw [if_neg hjx, if_neg hjx, if_neg hjx]
            · have hstep := beg_no (T := T1) (l := l) (k := k) (by rw [Hv.out, hTl]; omega)
              have Hstep := Lib.hid hstep; clear hstep
              have Hr := Lib.hid hr
              clear hr
              go_wp2
              go_roundg (gk - 1)
              case measure => have := Hkj.out; omega
              case rel => exact ⟨k + 1, by have := Hkj.out; omega, by go_num, hb, Hr.out.congr (fun j hj => by unfold rowF; rw [Hstep.out])⟩
          · have hstep := beg_no (T := T1) (l := l) (k := k) (by rw [Hv.out, hTl]; omega)
            have Hstep := Lib.hid hstep; clear hstep
            have Hr := Lib.hid hr
            clear hr
            go_wp2
            go_roundg (gk - 1)
            case measure => have := Hkj.out; omega
            case rel => exact ⟨k + 1, by have := Hkj.out; omega, by go_num, hb, Hr.out.congr (fun j hj => by unfold rowF; rw [Hstep.out])⟩
        · obtain rfl : k = q := by omega
          have hTs : timeT fs takes (x + 1) = T1 ++ [fin takes x (beg T1 l k)] := by
            rw [timeT, HTe.out, Hl2.out, Hq.out]
          have HTs := Lib.hid hTs; clear hTs
          have hfin : ∀ v, fin takes x (beg T1 l k) = v → ∀ j, gI (timeT fs takes (x + 1)) j = if j = x then v else gI T1 j := by
            intro v hv j
            rw [HTs.out, gI_snoc, hTl, hv]
          have Hfin := Lib.hid hfin; clear hfin
          have hbr := beg_range (l := l) HTr.out k
          by_cases hxt : x < tn
          · have hfin2 : fin takes x (beg T1 l k) = wrap64 (beg T1 l k + min (max (gI takes x) 0) 1099511627776) := by
              unfold fin; rw [if_pos (by rw [← Hn3.out]; exact hxt)]
            have Hf2 := Lib.hid hfin2; clear hfin2
            obtain ⟨b3, off3, rfl, hI3, hc3⟩ := HT.out.at (by rw [← Hn3.out]; omega)
            have hcell : wr.cell? ⟨b3, off3 + x, none⟩ = some (.int .i64 (gI takes x)) := (hb.cell (p := ⟨b3, off3 + x, none⟩) hI3).trans (hc3 x (by rw [← Hn3.out]; exact hxt))
            clear hc3
            have cx : wr.cell? ⟨w.heap.size + 1, x, none⟩ = some (.int .i64 (beg T1 l k)) := by
              rw [hr.cell hlt]; simp [rowF]
            have fx := hr.frozen x
            have Hr := Lib.hid hr
            have Hb := Lib.hid hb
            clear hr hb
            go_wp2_with fail
            go_region
            clear cx fx hcell
            go_wp2
            all_goals
              go_roundg (n - x - 1)
              case measure => have := Hmj.out; omega
              case rel =>
                refine ⟨x + 1, by have := Hmj.out; omega, by go_num, (Hb.out.setCell (by simp) _).drew, ((Hr.out.set x _).drew).congr (fun j hj => ?_)⟩
                rw [Hfin.out _ Hf2.out]
                by_cases hjx : j = x
                · rw [if_pos hjx, if_pos hjx]; congr 2; omega
                · rw [if_neg hjx, if_neg hjx]; unfold rowF; rw [if_neg hjx]
          · have hfin2 : fin takes x (beg T1 l k) = beg T1 l k := by
              unfold fin; rw [if_neg (by rw [← Hn3.out]; exact hxt)]
            have Hf2 := Lib.hid hfin2; clear hfin2
            have Hr := Lib.hid hr
            clear hr
            go_wp2
            go_roundg (n - x - 1)
            case measure => have := Hmj.out; omega
            case rel =>
              refine ⟨x + 1, by have := Hmj.out; omega, by go_num, hb, Hr.out.congr (fun j hj => ?_)⟩
              rw [Hfin.out _ Hf2.out]
              rfl
    · have hx : x = n := by omega
      go_wp2
      go_ret
      have hT : timeI fs takes = T1 := by unfold timeI; rw [← HTe.out, ← Hn1.out, hx]
      refine ⟨some ⟨w.heap.size + 1, 0, none⟩, n, ?_, ?_, hb⟩
      · rw [hT, hTl, hx]; rfl
      · refine ⟨by simp [ints_length], fun _ => ⟨w.heap.size + 1, 0, rfl, hr.lt, fun j u hu => ?_⟩⟩
        rw [hT] at hu
        simp [ints, List.getElem?_map] at hu
        obtain ⟨v, hv, rfl⟩ := hu
        obtain ⟨hj, rfl⟩ := List.getElem?_eq_some_iff.1 hv
        rw [Nat.zero_add, hr.cell (by omega)]
        simp [gI, List.getElem?_eq_getElem hj]
end Go.Proofs.Ytkldeelhlbhlmaa
