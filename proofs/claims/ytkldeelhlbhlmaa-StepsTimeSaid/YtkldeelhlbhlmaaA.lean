/- Plans as lists, lists of integers compared. -/
import Derived.Test.YtkldeelhlbhlmaaBase
import Derived.Test.YtkldeelhlbhlmaaMem
namespace Go.Proofs.Ytkldeelhlbhlmaa
open Go.RowKit
attribute [local irreducible] wpList Calls Code.wp
def ints (k : IntKind) (l : List Int) : List Value := l.map (Value.int k)
theorem ints_length (k : IntKind) (l : List Int) : (ints k l).length = l.length := by simp [ints]
theorem ints_append (k : IntKind) (l m : List Int) : ints k (l ++ m) = ints k l ++ ints k m := by simp [ints]
/-- a slice of ints that is read -/
def Is (w : World) (I : Nat → Prop) (A : Option Addr) (l : List Int) : Prop := Rd w I 1 A l.length (ints .i64 l)
theorem Is.at {w : World} {I : Nat → Prop} {A : Option Addr} {l : List Int} (h : Is w I A l) (hn : 0 < l.length) : ∃ b off, A = some ⟨b, off, none⟩ ∧ I b ∧ ∀ j, j < l.length → w.cell? ⟨b, off + j, none⟩ = some (.int .i64 (gI l j)) := by
  obtain ⟨b, off, hA, hb, hc⟩ := h.2 hn
  refine ⟨b, off, hA, hb, fun j hj => hc j _ ?_⟩
  simp [ints, gI, List.getElem?_eq_getElem hj]
theorem eq_of_gI {l m : List Int} (hn : l.length = m.length) (h : ∀ j, j < l.length → gI l j = gI m j) : l = m := by
  apply List.ext_getElem hn
  intro j h1 h2
  have := h j h1
  simpa [gI, List.getElem?_eq_getElem h1, List.getElem?_eq_getElem h2] using this
/-- a bool comes back, and nothing that was there has turned -/
def Bo (b : Bool) (w : World) (e : Ending) (w' : World) : Prop := e = .returned (.bool b) ∧ Below w.heap.size w w'
set_option maxHeartbeats 1000000 in
theorem ints12 (L M : List Int) (A A' : Option Addr) (c c' : Nat) (w : World) (h1 : Is w (fun k => k < w.heap.size) A L) (h2 : Is w (fun k => k < w.heap.size) A' M) (hL : L.length ≤ 9223372036854775807) (hM : M.length ≤ 9223372036854775807) :
    Calls Try.prog 12 #[.slice A L.length c, .slice A' M.length c'] w (Bo (decide (L = M)) w) := by
  have H1 := Lib.hid h1; have H2 := Lib.hid h2
  clear h1 h2
  by_cases hlen : L.length = M.length
  · have hn0 : ∃ n, n = L.length := ⟨_, rfl⟩
    obtain ⟨n, hn1⟩ := hn0
    have hn2 : n = M.length := by omega
    rw [← hn1] at hL ⊢
    rw [← hn2]
    have Hn1 := Lib.hid hn1; have Hn2 := Lib.hid hn2; clear hn1 hn2 hlen hM
    have hne : ((n : Int) != (n : Int)) = false := by simp
    go_enter Try.func12, Try.ntmps12
    go_wp2
    go_loopg [5] n (fun j i wr => ∃ m : Nat, m + j = n ∧ i = .int .i64 m ∧ (∀ k, k < m → gI L k = gI M k) ∧ Below w.heap.size w wr)
    case atStart => exact ⟨0, by omega, rfl, fun k hk => by omega, Below.refl _ _⟩
    case round =>
      obtain ⟨x, hmj, rfl, heq, hb⟩ := hrel
      have Hmj := Lib.hid hmj; have hmn : x ≤ n := by omega
      clear hmj
      have Heq := Lib.hid heq; clear heq
      by_cases hlt : x < n
      · obtain ⟨b, off, rfl, hI, hc⟩ := H1.out.at (by rw [← Hn1.out]; omega)
        obtain ⟨b', off', rfl, hI', hc'⟩ := H2.out.at (by rw [← Hn2.out]; omega)
        have hcell : wr.cell? ⟨b, off + x, none⟩ = some (.int .i64 (gI L x)) := (hb.cell (p := ⟨b, off + x, none⟩) hI).trans (hc x (by rw [← Hn1.out]; exact hlt))
        have hcell' : wr.cell? ⟨b', off' + x, none⟩ = some (.int .i64 (gI M x)) := (hb.cell (p := ⟨b', off' + x, none⟩) hI').trans (hc' x (by rw [← Hn2.out]; exact hlt))
        clear hc hc'
        by_cases hxy : gI L x = gI M x
        · have hne2 : (gI L x != gI M x) = false := by simp [hxy]
          have Hxy := Lib.hid hxy; clear hxy
          go_wp2_with fail
          go_quiet (go_wp2)
          go_wp2
          go_roundg (gk - 1)
          case measure => have := Hmj.out; omega
          case rel =>
            refine ⟨x + 1, by have := Hmj.out; omega, by go_num, ?_, below_draws hb _⟩
            intro k hk
            by_cases hkx : k = x
            · rw [hkx]; exact Hxy.out
            · exact Heq.out k (by omega)
        · have hne2 : (gI L x != gI M x) = true := by simp [hxy]
          have hLM : decide (L = M) = false := decide_eq_false fun h => hxy (by rw [h])
          clear hxy
          go_wp2_with fail
          go_quiet (go_wp2)
          go_wp2
          go_ret
          exact ⟨by rw [hLM]; rfl, below_draws hb _⟩
      · have hx : x = n := by omega
        have hLM : decide (L = M) = true := decide_eq_true (eq_of_gI (Hn1.out.symm.trans Hn2.out) fun j hj => Heq.out j (by have := Hn1.out; omega))
        have HLM := Lib.hid hLM; clear hLM
        go_wp2
        go_ret
        exact ⟨by rw [HLM.out]; rfl, hb⟩
  · have hne : ((L.length : Int) != (M.length : Int)) = true := by simp; omega
    have hLM : decide (L = M) = false := decide_eq_false fun h => hlen (by rw [h])
    rw [hLM]
    clear hLM
    go_enter Try.func12, Try.ntmps12
    go_wp2
    go_ret
    exact ⟨rfl, Below.refl _ _⟩
end Go.Proofs.Ytkldeelhlbhlmaa
