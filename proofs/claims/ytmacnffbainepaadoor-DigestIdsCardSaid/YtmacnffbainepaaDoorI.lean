/- Bytes in hexadecimal, in both texts; strings out of bytes. -/
import Derived.Test.YtmacnffbainepaaDoorH
import Derived.Laws.BytesArg
import Derived.Laws.IdiomStrings
namespace Go.Proofs.YtmacnffbainepaaDoor
open Go.RowKit
attribute [local irreducible] ws rnds blockI wpList Calls Code.wp sumTo outTo
/-- string(b) -/
theorem conv_str {P : Program} {w : World} {I : Nat → Prop} (src e dst : TypeId) (hs : P.underlying src = some (.slice e)) (he : P.underlying e = some (.int .u8)) (hd : P.underlying dst = some .string) (A : Option Addr) (cap : Nat) (L : List Int) (n : Nat) (hn : n = L.length) (h : Rd w I 1 A n (ints .u8 L)) :
    (convert src dst (.slice A n cap)).run P w = .ok (.string (strOfNums L)) w := by
  subst hn
  rcases Nat.eq_zero_or_pos L.length with h0 | h0
  · have hL : L = [] := List.eq_nil_of_length_eq_zero h0
    subst hL
    cases A with
    | none => exact run_convert_bytes_nil w src e hs he 0 cap dst hd
    | some a =>
      show (convert src dst (.slice (some a) 0 cap)).run P w = _
      rw [run_convert_bytes_string w src dst e _ 0 cap hs he hd, run_bytesToString w _ 0 cap [] rfl]
      rfl
  · obtain ⟨b, off, rfl, _, hc⟩ := h.2 h0
    exact run_convert_bytes_arg w src e hs he b off L.length cap L rfl (fun i hi => hc i _ (by simp [ints, List.getD_eq_getElem?_getD, List.getElem?_eq_getElem hi])) dst hd
def hexd (n : Int) : Int := if n < 10 then 48 + n else 87 + n
def hexTo (L : List Int) : Nat → List Int
  | 0 => []
  | k + 1 => hexTo L k ++ [hexd (gI L k / 16), hexd (gI L k % 16)]
theorem hexTo_zero (L : List Int) : hexTo L 0 = [] := rfl
theorem hexTo_succ (L : List Int) (k : Nat) : hexTo L (k + 1) = hexTo L k ++ [hexd (gI L k / 16), hexd (gI L k % 16)] := rfl
theorem hexTo_length (L : List Int) (k : Nat) : (hexTo L k).length = 2 * k := by
  induction k with
  | zero => rfl
  | succ k ih => simp [hexTo, ih]; omega
def hexI (L : List Int) : List Int := hexTo L L.length
theorem hexI_length (L : List Int) : (hexI L).length = 2 * L.length := hexTo_length _ _
def digs : ByteArray := { data := #[48, 49, 50, 51, 52, 53, 54, 55, 56, 57, 97, 98, 99, 100, 101, 102] }
theorem hex_at (j : Nat) (hj : j < 16) (w : World) : (Instr.index 9 (.string { data := #[48, 49, 50, 51, 52, 53, 54, 55, 56, 57, 97, 98, 99, 100, 101, 102] }) (.int .u8 (j : Int))).run Tryd.prog w = .ok (.int .u8 (hexd (j : Int))) w := by
  rcases j with _ | _ | _ | _ | _ | _ | _ | _ | _ | _ | _ | _ | _ | _ | _ | _ | j
  · kernel_rfl
  · kernel_rfl
  · kernel_rfl
  · kernel_rfl
  · kernel_rfl
  · kernel_rfl
  · kernel_rfl
  · kernel_rfl
  · kernel_rfl
  · kernel_rfl
  · kernel_rfl
  · kernel_rfl
  · kernel_rfl
  · kernel_rfl
  · kernel_rfl
  · kernel_rfl
  · omega
theorem hex_idx (x y : Int) (h0 : 0 ≤ x) (h1 : x < 16) (hxy : x = y) (w : World) : (Instr.index 9 (.string { data := #[48, 49, 50, 51, 52, 53, 54, 55, 56, 57, 97, 98, 99, 100, 101, 102] }) (.int .u8 x)).run Tryd.prog w = .ok (.int .u8 (hexd y)) w := by
  subst hxy
  have h := hex_at x.toNat (by omega) w
  rw [Int.toNat_of_nonneg h0] at h
  exact h
theorem and15 (x : Int) (h0 : 0 ≤ x) (h1 : x < 256) : bits .and .u8 x 15 = x % 16 := by
  have h : ∀ j : Fin 256, bits .and .u8 (j.val : Int) 15 = (j.val : Int) % 16 := by decide +kernel
  have := h ⟨x.toNat, by omega⟩
  simpa [Int.toNat_of_nonneg h0] using this
/-- a string comes back, and nothing that was there has turned -/
def Str (L : List Int) (w : World) (e : Ending) (w' : World) : Prop := e = .returned (.string (strOfNums L)) ∧ Below w.heap.size w w'
set_option maxRecDepth 100000 in
set_option maxHeartbeats 1000000 in
theorem hex11 (L : List Int) (A : Option Addr) (cap : Nat) (I : Nat → Prop) (w : World) (hI : ∀ k, I k → k < w.heap.size) (hr : Rd w I 1 A L.length (ints .u8 L)) (hn : L.length ≤ 1000000) (hb : Bytes L) :
    Calls Tryd.prog 11 #[.slice A L.length cap] w (Str (hexI L) w) := by
  have HB := Lib.hid (gI_bytes hb); clear hb
  have HR := Lib.hid hr; clear hr
  have HII := Lib.hid hI; clear hI
  have hn0 : ∃ n, n = L.length := ⟨_, rfl⟩
  obtain ⟨n, hn1⟩ := hn0
  rw [← hn1] at HR hn ⊢
  have Hn1 := Lib.hid hn1; clear hn1
  go_enter Tryd.func11, Tryd.ntmps11
  go_wp2
  go_loopg [3, 8] n (fun j v i wr => ∃ m : Nat, m + j = n ∧ i = .int .i64 m ∧ (∃ A n c, v = .slice A n c) ∧ wr.ownsRow w.heap.size 5 1 v (2 * m) (ints .u8 (hexTo L m)) ∧ (0 < m → ∃ g c, v = .slice (some ⟨g, 0, none⟩) (2 * m) c) ∧ (m = 0 → v = .slice none 0 0) ∧ Below w.heap.size w wr)
  case atStart => exact ⟨0, by omega, rfl, ⟨_, _, _, rfl⟩, by rw [hexTo_zero]; exact World.ownsRow_nil _ _ _ _, fun h => by omega, fun _ => rfl, Below.refl _ _⟩
  case round =>
    obtain ⟨x, hmj, rfl, ⟨A3, n3, c3, rfl⟩, hown, hvs, hv0, hb⟩ := hrel
    have Hmj := Lib.hid hmj; have hmn : x ≤ n := by omega
    have Hvs := Lib.hid hvs; have Hv0 := Lib.hid hv0
    clear hmj hvs hv0
    by_cases hlt : x < n
    · obtain ⟨b, off, hA, hIb, hc⟩ := HR.out.2 (by omega)
      subst hA
      have hcell : wr.cell? ⟨b, off + x, none⟩ = some (.int .u8 (gI L x)) := by
        rw [hb.cell (p := ⟨b, off + x, none⟩) (HII.out b hIb)]
        refine hc x _ ?_
        have : x < L.length := by rw [← Hn1.out]; exact hlt
        simp [ints, gI, List.getElem?_eq_getElem this]
      have gx := HB.out x
      have i1 := hex_idx (gI L x / 16) (gI L x / 16) (by omega) (by omega) rfl
      have i2 := hex_idx (bits .and .u8 (gI L x) 15) (gI L x % 16) (by rw [and15 _ gx.1 gx.2]; omega) (by rw [and15 _ gx.1 gx.2]; omega) (and15 _ gx.1 gx.2)
      clear hc
      go_wp2_with fail
      go_region_held3 (fun _ => True) (trivial) ((refine step_new (o := ⟨some 20, _, _, _, _, _⟩) rfl (.tmp 12) (.tmp 19) 22 rfl w.heap.size 5 _ 1 1 Tryd.underlying22 u8info rfl (by decide) _ _ _ hown #[.int .u8 (hexd (gI L x / 16)), .int .u8 (hexd (gI L x % 16))] 2 rfl rfl rfl rfl (by simp only [maxLen]; omega) (by omega) hb.size ?_; intro v' w' hown2 hg' hsz' hat' hsh'))
      all_goals
        obtain ⟨g', c', rfl⟩ := hsh' (by omega)
        go_wp2
        go_roundg (gk - 1)
        case measure => have := Hmj.out; omega
        case rel =>
          refine ⟨x + 1, by have := Hmj.out; omega, by go_num, ⟨_, _, _, rfl⟩, ?_, fun _ => ⟨g', c', by rw [show 2 * (x + 1) = 2 * x + 2 from by omega]⟩, fun h => by omega, hb.grown hg' hb.size (fun y hy => (hown.lt y hy).1)⟩
          rw [hexTo_succ, ints_append, show 2 * (x + 1) = 2 * x + 2 from by omega]
          exact hown2
    · have hx : x = n := by omega
      have hrd : Rd wr (fun _ => True) 1 A3 n3 (ints .u8 (hexI L)) ∧ n3 = (hexI L).length := by
        have hL : hexTo L x = hexI L := by rw [hx, Hn1.out]; rfl
        have hlen : 2 * x = (hexI L).length := by rw [← hL, hexTo_length]
        rw [hL, hlen] at hown
        rcases Nat.eq_zero_or_pos x with h0 | h0
        · have := Hv0.out h0
          simp only [Value.slice.injEq] at this
          obtain ⟨rfl, rfl, rfl⟩ := this
          have h00 : (hexI L).length = 0 := by omega
          exact ⟨⟨by simp [ints, h00], fun h => by omega⟩, by omega⟩
        · obtain ⟨g, c, hv⟩ := Hvs.out h0
          simp only [Value.slice.injEq] at hv
          obtain ⟨rfl, rfl, rfl⟩ := hv
          refine ⟨⟨by simp [ints, hlen], fun _ => ⟨g, 0, rfl, trivial, fun j u hu => ?_⟩⟩, hlen⟩
          rw [Nat.zero_add]
          rw [← hlen] at hown
          have hj : j < 2 * x := by
            have := (List.getElem?_eq_some_iff.1 hu).1
            simp [ints] at this; omega
          rw [hown.cellAt j (by omega)]
          exact hu
      have hcv := conv_str (P := Tryd.prog) (w := wr) 22 5 9 Tryd.underlying22 Tryd.underlying5 Tryd.underlying9 A3 c3 (hexI L) n3 hrd.2 hrd.1
      have Hcv := Lib.hid hcv
      have hf : Str (hexI L) w (.returned (.string (strOfNums (hexI L)))) wr := ⟨rfl, hb⟩
      have Hf := Lib.hid hf
      clear hf hrd hx hown
      clear Hcv
      go_wp2
      go_ret
      exact Hf.out
end Go.Proofs.YtmacnffbainepaaDoor
