/- The fetches of each depth, in the reference's text. -/
import Derived.Test.YtkldeelhlbhlmaaE
import Derived.Deep.Onto
namespace Go.Proofs.Ytkldeelhlbhlmaa
open Go.RowKit
attribute [local irreducible] wpList Calls Code.wp
theorem own_turn {w w' : World} {B e s : Nat} {v : Value} {n : Nat} {xs : List Value} (h : w.ownsRow B e s v n xs) (hk : ∀ k, v.ownBlock = some k → w'.heap[k]? = w.heap[k]?) : w'.ownsRow B e s v n xs := by
  rcases h.2 with h0 | ⟨g, cap, cur, rfl, hg, hb, r⟩
  · exact ⟨h.1, .inl h0⟩
  · exact ⟨h.1, .inr ⟨g, cap, cur, rfl, hg, (hk g rfl).trans hb, r⟩⟩
/-- the blocks that are there, but for the one that v owns -/
def Kept (w : World) (v : Value) (k : Nat) : Prop := k < w.heap.size ∧ some k ≠ v.ownBlock
theorem Kept.grown {w w' : World} {v v' : Value} (hg : w.grownBy w' v.ownBlock) (ha : v'.ownBlock = v.ownBlock ∨ ∃ g, v'.ownBlock = some g ∧ w.heap.size ≤ g) {k : Nat} (h : Kept w v k) : w'.heap[k]? = w.heap[k]? ∧ Kept w' v' k := by
  refine ⟨hg.block k h.1 h.2, Nat.lt_of_lt_of_le h.1 hg.size, ?_⟩
  rcases ha with e | ⟨g, e, hle⟩
  · rw [e]; exact h.2
  · rw [e]; intro h2; injection h2 with h2; have := h.1; omega
/-- a list of lists -/
def gL (ws : List (List Int)) (i : Nat) : List Int := ws.getD i []
/-- cells that are slices of ints -/
def Lls (w : World) (I : Nat → Prop) (xs : List Value) (ws : List (List Int)) : Prop :=
  xs.length = ws.length ∧ ∀ i, i < ws.length → ∃ B c, xs[i]? = some (.slice B (gL ws i).length c) ∧ Is w I B (gL ws i)
theorem Lls.turn {w w' : World} {I J : Nat → Prop} {xs : List Value} {ws : List (List Int)} (h : Lls w I xs ws) (hs : ∀ k, I k → w'.heap[k]? = w.heap[k]? ∧ J k) : Lls w' J xs ws := by
  refine ⟨h.1, fun i hi => ?_⟩
  obtain ⟨B, c, hx, hr⟩ := h.2 i hi
  exact ⟨B, c, hx, Rd.mono (Rd.same hr (fun k hk => (hs k hk).1)) (fun k hk => (hs k hk).2)⟩
theorem Lls.nil (w : World) (I : Nat → Prop) : Lls w I [] [] := ⟨rfl, fun i hi => by simp at hi⟩
theorem Lls.snoc {w : World} {I : Nat → Prop} {xs : List Value} {ws : List (List Int)} (h : Lls w I xs ws) {B : Option Addr} {c : Nat} {l : List Int} (hl : Is w I B l) : Lls w I (xs ++ [.slice B l.length c]) (ws ++ [l]) := by
  refine ⟨by simp [h.1], fun i hi => ?_⟩
  by_cases hw : i < ws.length
  · obtain ⟨B', c', hx, hr⟩ := h.2 i hw
    have e : gL (ws ++ [l]) i = gL ws i := by simp [gL, List.getElem?_append_left hw]
    rw [e]
    exact ⟨B', c', by rw [List.getElem?_append_left (by rw [h.1]; exact hw)]; exact hx, hr⟩
  · have hi' : i = ws.length := by simp at hi; omega
    subst hi'
    have e : gL (ws ++ [l]) ws.length = l := by simp [gL]
    rw [e]
    exact ⟨B, c, by rw [← h.1]; simp, hl⟩
def LL (w : World) (I : Nat → Prop) (A : Option Addr) (ws : List (List Int)) : Prop := ∃ xs, Rd w I 1 A ws.length xs ∧ Lls w I xs ws
/-- a list of lists comes back, of which nothing was there -/
def Wv (ws : List (List Int)) (w : World) (e : Ending) (w' : World) : Prop := ∃ A c, e = .returned (.slice A ws.length c) ∧ LL w' (fun k => k < w'.heap.size) A ws ∧ Below w.heap.size w w'
/-- of the first k fetches those of depth d -/
def waveT (fs : List (Int × List Int)) (d : Int) : Nat → List Int
  | 0 => []
  | k + 1 => if (gF fs k).1 = d then waveT fs d k ++ [(k : Int)] else waveT fs d k
def mostT (fs : List (Int × List Int)) (n : Nat) : Nat → Int
  | 0 => 0
  | k + 1 => if (gF fs k).1 ≤ n then max (mostT fs n k) (gF fs k).1 else mostT fs n k
def wavesT (fs : List (Int × List Int)) : Nat → List (List Int)
  | 0 => []
  | d + 1 => wavesT fs d ++ [waveT fs (d + 1 : Nat) fs.length]
def wavesI (fs : List (Int × List Int)) : List (List Int) := wavesT fs (mostT fs fs.length fs.length).toNat
theorem waveT_length (fs : List (Int × List Int)) (d : Int) (k : Nat) : (waveT fs d k).length ≤ k := by
  induction k with
  | zero => simp [waveT]
  | succ k ih => rw [waveT]; split
                 · simp; omega
                 · omega
theorem wavesT_length (fs : List (Int × List Int)) (d : Nat) : (wavesT fs d).length = d := by
  induction d with
  | zero => rfl
  | succ d ih => simp [wavesT, ih]
theorem mostT_range (fs : List (Int × List Int)) (n k : Nat) : 0 ≤ mostT fs n k ∧ mostT fs n k ≤ n := by
  induction k with
  | zero => simp [mostT]
  | succ k ih => rw [mostT]; split <;> omega
theorem slinfo : (Try.prog.info? 31).map (fun i => (i.zero, i.size, i.bytes)) = some (some (.slice none 0 0), 1, 24) := by kernel_rfl
theorem own_is2 {w : World} {B e : Nat} {v : Value} {n : Nat} {l : List Int} {A : Option Addr} {c : Nat} (h : w.ownsRow B e 1 v n (ints .i64 l)) (hl : l.length = n) (hv : v = .slice A n c) : Is w (fun k => B ≤ k ∧ k < w.heap.size) A l := by
  have h0 := own_is h hl hv
  refine ⟨h0.1, fun hn => ?_⟩
  obtain ⟨b, off, hA, hb, hc⟩ := h0.2 hn
  subst hv; subst hA
  exact ⟨b, off, rfl, h.lt b rfl, hc⟩
/-- a slice of slices that a call owns reads as its list -/
theorem own_LL {w : World} {B e : Nat} {n : Nat} {ws : List (List Int)} {xs : List Value} {A : Option Addr} {c : Nat} (h : w.ownsRow B e 1 (.slice A n c) n xs) (hn : n = ws.length) (hl : Lls w (Kept w (.slice A n c)) xs ws) : LL w (fun k => k < w.heap.size) A ws := by
  refine ⟨xs, ⟨by rw [hl.1, Nat.mul_one], fun h0 => ?_⟩, hl.turn fun k hk => ⟨rfl, hk.1⟩⟩
  rcases h.2 with ⟨_, h1⟩ | ⟨g, cap, cur, hv, hg, r⟩
  · omega
  · simp only [Value.slice.injEq] at hv
    obtain ⟨rfl, -, rfl⟩ := hv
    refine ⟨g, 0, rfl, (h.lt g rfl).2, fun j u hu => ?_⟩
    have hj : j < n := by have := (List.getElem?_eq_some_iff.1 hu).1; have := h.1; omega
    rw [Nat.zero_add, h.cellAt j (by omega)]
    exact hu
attribute [local irreducible] waveT mostT wavesT
theorem Fch.dep {w w0 : World} {b o : Nat} {f : Int × List Int} (h : Fch w0 (fun k => k < w0.heap.size) b o f) (hI : b < w0.heap.size) (hb : Below w0.heap.size w0 w) : w.cell? ⟨b, o + 1, none⟩ = some (.int .i64 f.1) := by
  obtain ⟨g, P, pn, pc, s, K, kn, kc, y, Q, qn, qc, B2, c2, h0, h1, h2, h3, h4, h5, h6, h7, hi, hl, hr1, hr2⟩ := h
  exact (hb.cell (p := ⟨b, o + 1, none⟩) hI).trans h1
set_option maxRecDepth 100000 in
set_option maxHeartbeats 2000000 in
theorem waves11 (kd : Int) (B : Option Addr) (bn bc : Nat) (A : Option Addr) (c : Nat) (fs : List (Int × List Int)) (w : World) (h : Pl w (fun k => k < w.heap.size) A fs) (hn : fs.length ≤ 200) :
    Calls Try.prog 11 #[plan kd B bn bc A fs.length c] w (Wv (wavesI fs) w) := by
  have H := Lib.hid h; clear h
  have hn0 : ∃ n, n = fs.length := ⟨_, rfl⟩
  obtain ⟨n, hn1⟩ := hn0
  unfold plan
  rw [← hn1] at hn ⊢
  have Hn1 := Lib.hid hn1; clear hn1
  go_enter Try.func11, Try.ntmps11
  go_wp2
  go_loopg [3, 4] n (fun j o i wr => ∃ m : Nat, m + j = n ∧ i = .int .i64 m ∧ o = .int .i64 (mostT fs n m) ∧ Below w.heap.size w wr ∧ wr.cell? ⟨w.heap.size, 2, none⟩ = some (.slice A n c) ∧ w.heap.size + 1 ≤ wr.heap.size)
  case atStart =>
    exact ⟨0, by omega, rfl, by rw [mostT], (Below.refl _ _).alloc (Nat.le_refl _) _, cell_of_row _ _ _ _ _ _ (heap_at rfl), by simp⟩
  case round =>
    obtain ⟨x, hmj, rfl, rfl, hb, hbx, hsz⟩ := hrel
    have Hmj := Lib.hid hmj; have hmn : x ≤ n := by omega
    clear hmj
    by_cases hlt : x < n
    · obtain ⟨b, off, rfl, hI, hc⟩ := H.out (by rw [← Hn1.out]; omega)
      have e1 := (hc x (by rw [← Hn1.out]; exact hlt)).dep hI hb
      clear hc
      have Hb := Lib.hid hb; clear hb
      by_cases hd : (gF fs x).1 ≤ n
      · have hstep : mostT fs n (x + 1) = max (mostT fs n x) (gF fs x).1 := by rw [mostT, if_pos hd]
        have Hstep := Lib.hid hstep; clear hstep
        go_wp2_with fail
        go_region
        go_wp2
        all_goals
          go_roundg (gk - 1)
          case measure => have := Hmj.out; omega
          case rel =>
            refine ⟨x + 1, by have := Hmj.out; omega, by go_num, ?_, below_draws Hb.out _, hbx, hsz⟩
            rw [Hstep.out]; congr 1; omega
      · have hstep : mostT fs n (x + 1) = mostT fs n x := by rw [mostT, if_neg hd]
        have Hstep := Lib.hid hstep; clear hstep
        go_wp2_with fail
        go_region
        go_wp2
        go_roundg (gk - 1)
        case measure => have := Hmj.out; omega
        case rel => exact ⟨x + 1, by have := Hmj.out; omega, by go_num, by rw [Hstep.out], below_draws Hb.out _, hbx, hsz⟩
    · obtain rfl : x = n := by omega
      have hmr := mostT_range fs x x
      have hws : wavesI fs = wavesT fs (mostT fs x x).toNat := by unfold wavesI; rw [← Hn1.out]
      have Hws := Lib.hid hws; clear hws
      have hN : ∃ N : Nat, (N : Int) = mostT fs x x := ⟨(mostT fs x x).toNat, by omega⟩
      obtain ⟨N, hN⟩ := hN
      rw [← hN] at Hws hmr ⊢
      rw [Int.toNat_natCast] at Hws
      clear hN
      go_wp2
      go_loopg [5, 6] N (fun j v i wr => ∃ m : Nat, m + j = N ∧ i = .int .i64 ((m : Int) + 1) ∧ Below w.heap.size w wr ∧ wr.cell? ⟨w.heap.size, 2, none⟩ = some (.slice A x c) ∧ w.heap.size + 1 ≤ wr.heap.size ∧ ∃ A' c' xs, v = .slice A' m c' ∧ wr.ownsRow (w.heap.size + 1) 31 1 v m xs ∧ Lls wr (Kept wr v) xs (wavesT fs m))
      case atStart =>
        exact ⟨0, by omega, rfl, hb, hbx, hsz, _, _, [], rfl, World.ownsRow_nil _ _ _ _, by rw [wavesT]; exact Lls.nil _ _⟩
      case round =>
        clear hb hbx hsz
        obtain ⟨m, hmj, rfl, hb, hbx, hsz, A', c', xs, rfl, hown, hls⟩ := hrel
        have Hmm := Lib.hid hmj; have hmn : m ≤ N := by omega
        clear hmj
        by_cases hltm : m < N
        · have Hown := Lib.hid hown; clear hown
          have Hls := Lib.hid hls; clear hls
          have Hb := Lib.hid hb; clear hb
          have Hbx := Lib.hid hbx; clear hbx
          have hle : (m : Int) + 1 ≤ (N : Int) := by omega
          go_wp2
          go_loopg [7, 8] x (fun j o i wr1 => ∃ k : Nat, k + j = x ∧ i = .int .i64 k ∧ Below wr.heap.size wr wr1 ∧ ∃ A2 c2, o = .slice A2 (waveT fs (m + 1 : Nat) k).length c2 ∧ wr1.ownsRow wr.heap.size 3 1 o (waveT fs (m + 1 : Nat) k).length (ints .i64 (waveT fs (m + 1 : Nat) k)))
          case atStart => exact ⟨0, by omega, rfl, Below.refl _ _, by rw [waveT]; exact ⟨_, _, rfl, World.ownsRow_nil _ _ _ _⟩⟩
          case round =>
            obtain ⟨k, hkj, rfl, hb1, A2, c2, rfl, hown1⟩ := hrel
            have Hkj := Lib.hid hkj; have hkx : k ≤ x := by omega
            clear hkj
            have hbx1 := (hb1.cell (p := ⟨w.heap.size, 2, none⟩) (by simp; omega)).trans Hbx.out
            have Hown1 := Lib.hid hown1; clear hown1
            have hwl := waveT_length fs (m + 1 : Nat) k
            by_cases hltk : k < x
            · obtain ⟨b, off, rfl, hI, hc⟩ := H.out (by rw [← Hn1.out]; omega)
              have hb2 := Hb.out.trans (hb1.mono Hb.out.size)
              have e1 := (hc k (by rw [← Hn1.out]; exact hltk)).dep hI hb2
              clear hc hb2
              by_cases hd : (gF fs k).1 = (m : Int) + 1
              · have hstep : waveT fs (m + 1 : Nat) (k + 1) = waveT fs (m + 1 : Nat) k ++ [(k : Int)] := by rw [waveT, if_pos (by push_cast; exact hd)]
                have Hstep := Lib.hid hstep; clear hstep
                have hde : ((gF fs k).1 == (m : Int) + 1) = true := by simp [hd]
                have Hd := Lib.hid hd; clear hd
                go_wp2_with (at_builtin; refine append_new (o := ⟨some 57, _, _, _, _, _⟩) rfl (.tmp 54) (.tmp 56) 31 rfl _ 3 _ 1 8 Try.underlying31 intinfo rfl (by decide) _ _ _ Hown1.out #[.int .i64 (k : Int)] 1 rfl rfl rfl rfl (by simp only [maxLen]; omega) (by omega) hb1.size ?_; intro v' w' hown' hg' hsz' hat' hsh')
                obtain ⟨g', c'', rfl⟩ := hsh' (by omega)
                go_wp2
                go_roundg (x - k - 1)
                case measure => have := Hkj.out; omega
                case rel =>
                  refine ⟨k + 1, by have := Hkj.out; omega, by go_num, hb1.grown hg' hb1.size (fun y hy => (Hown1.out.lt y hy).1), some ⟨g', 0, none⟩, c'', ?_, ?_⟩
                  · rw [Hstep.out, List.length_append]; rfl
                  · rw [Hstep.out, List.length_append, ints_append]; exact hown'
              · have hstep : waveT fs (m + 1 : Nat) (k + 1) = waveT fs (m + 1 : Nat) k := by rw [waveT, if_neg (by push_cast; exact hd)]
                have Hstep := Lib.hid hstep; clear hstep
                have hde : ((gF fs k).1 == (m : Int) + 1) = false := by simp [hd]
                have Hd := Lib.hid hd; clear hd
                go_wp2
                go_roundg (x - k - 1)
                case measure => have := Hkj.out; omega
                case rel =>
                  refine ⟨k + 1, by have := Hkj.out; omega, by go_num, hb1, A2, c2, ?_, ?_⟩
                  · rw [Hstep.out]
                  · rw [Hstep.out]; exact Hown1.out
            · obtain rfl : k = x := by omega
              have hwt : wavesT fs (m + 1) = wavesT fs m ++ [waveT fs (m + 1 : Nat) k] := by rw [wavesT, Hn1.out]
              have Hwt := Lib.hid hwt; clear hwt
              have Hown2 := Lib.hid (own_turn Hown.out (fun g hg => hb1.block g (Hown.out.lt g hg).2))
              have hb2 := Hb.out.trans (hb1.mono Hb.out.size)
              have Hb2 := Lib.hid hb2
              have hsz2 : w.heap.size + 1 ≤ wr.heap.size := Nat.le_trans hsz hb1.size
              have hrd2 := own_is2 Hown1.out rfl rfl
              clear hb2
              go_wp2_with (at_builtin; refine append_new (o := ⟨some 61, _, _, _, _, _⟩) rfl (.tmp 58) (.tmp 60) 28 rfl (w.heap.size + 1) 31 _ 1 24 Try.underlying28 slinfo rfl (by decide) _ _ _ Hown2.out _ 1 rfl rfl rfl rfl (by simp only [maxLen]; omega) (by omega) hsz2 ?_; intro v' w' hown' hg' hsz' hat' hsh')
              obtain ⟨g', c'', rfl⟩ := hsh' (by omega)
              go_wp2
              go_roundg (N - m - 1)
              case measure => have := Hmm.out; omega
              case rel =>
                refine ⟨m + 1, by have := Hmm.out; omega, by go_num, Hb2.out.grown hg' (by omega) (fun y hy => by have := (Hown2.out.lt y hy).1; omega), ?_, by have := hg'.size; omega, _, _, _, rfl, hown', ?_⟩
                · rw [World.cell?_of_block (w := wr) (hg'.block _ (block_lt_of_cell hbx1) (fun e => by have h1 : w.heap.size + 1 ≤ w.heap.size := (Hown2.out.lt _ e.symm).1; omega))]
                  exact hbx1
                · rw [Hwt.out]
                  have hl2 : Lls wr (Kept wr (.slice A' m c')) xs (wavesT fs m) := Hls.out.turn (fun g hg => ⟨hb1.block g hg.1, Nat.lt_of_lt_of_le hg.1 hb1.size, hg.2⟩)
                  have hnew : Is wr (Kept wr (.slice A' m c')) A2 (waveT fs (m + 1 : Nat) k) := by
                    refine hrd2.mono fun g hg => ⟨hg.2, fun e => ?_⟩
                    have h1 := (Hown.out.lt g e.symm).2
                    have h2 := hg.1
                    omega
                  exact (hl2.snoc hnew).turn (fun g hg => hg.grown hg' hat')
        · obtain rfl : m = N := by omega
          have Hll := Lib.hid (own_LL hown (wavesT_length fs m).symm hls); clear hls hown
          go_wp2
          go_ret
          refine ⟨A', c', ?_, ?_, hb⟩
          · rw [Hws.out, wavesT_length]; rfl
          · rw [Hws.out]; exact Hll.out
end Go.Proofs.Ytkldeelhlbhlmaa
