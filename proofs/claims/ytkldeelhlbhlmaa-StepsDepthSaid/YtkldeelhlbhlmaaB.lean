/- Plans; whether a plan is small. -/
import Derived.Test.YtkldeelhlbhlmaaA
namespace Go.Proofs.Ytkldeelhlbhlmaa
open Go.RowKit
attribute [local irreducible] wpList Calls Code.wp
/-- a fetch: its depth, and the fetches that it needs -/
def gF (fs : List (Int × List Int)) (i : Nat) : Int × List Int := fs.getD i (0, [])
/-- the eight cells of a fetch -/
def Fch (w : World) (I : Nat → Prop) (b o : Nat) (f : Int × List Int) : Prop :=
  ∃ (g : Int) (P : Option Addr) (pn pc : Nat) (s : ByteArray) (K : Option Addr) (kn kc : Nat) (y : Int) (Q : Option Addr) (qn qc : Nat) (B : Option Addr) (c : Nat),
    w.cell? ⟨b, o, none⟩ = some (.int .i64 g) ∧ w.cell? ⟨b, o + 1, none⟩ = some (.int .i64 f.1) ∧ w.cell? ⟨b, o + 2, none⟩ = some (.slice P pn pc) ∧ w.cell? ⟨b, o + 3, none⟩ = some (.string s) ∧ w.cell? ⟨b, o + 4, none⟩ = some (.slice K kn kc) ∧ w.cell? ⟨b, o + 5, none⟩ = some (.int .i64 y) ∧ w.cell? ⟨b, o + 6, none⟩ = some (.slice Q qn qc) ∧
    w.cell? ⟨b, o + 7, none⟩ = some (.slice B f.2.length c) ∧ Is w I B f.2 ∧ f.2.length ≤ 9223372036854775807 ∧ -9223372036854775808 ≤ f.1 ∧ f.1 ≤ 9223372036854775807
theorem Fch.same {w w' : World} {I : Nat → Prop} {b o : Nat} {f : Int × List Int} (h : Fch w I b o f) (hb : I b) (hs : Same I w w') : Fch w' I b o f := by
  obtain ⟨g, P, pn, pc, s, K, kn, kc, y, Q, qn, qc, B, c, h0, h1, h2, h3, h4, h5, h6, h7, hi, hl⟩ := h
  have e : ∀ o, w'.cell? ⟨b, o, none⟩ = w.cell? ⟨b, o, none⟩ := fun o => hs.cell hb
  exact ⟨g, P, pn, pc, s, K, kn, kc, y, Q, qn, qc, B, c, by rw [e, h0], by rw [e, h1], by rw [e, h2], by rw [e, h3], by rw [e, h4], by rw [e, h5], by rw [e, h6], by rw [e, h7], Rd.same hi hs, hl⟩
theorem Fch.mono {w : World} {I J : Nat → Prop} {b o : Nat} {f : Int × List Int} (h : Fch w I b o f) (hI : ∀ k, I k → J k) : Fch w J b o f := by
  obtain ⟨g, P, pn, pc, s, K, kn, kc, y, Q, qn, qc, B, c, h0, h1, h2, h3, h4, h5, h6, h7, hi, hl⟩ := h
  exact ⟨g, P, pn, pc, s, K, kn, kc, y, Q, qn, qc, B, c, h0, h1, h2, h3, h4, h5, h6, h7, hi.mono hI, hl⟩
/-- a slice of fetches -/
def Pl (w : World) (I : Nat → Prop) (A : Option Addr) (fs : List (Int × List Int)) : Prop :=
  0 < fs.length → ∃ b off, A = some ⟨b, off, none⟩ ∧ I b ∧ ∀ i, i < fs.length → Fch w I b (off + i * 8) (gF fs i)
theorem Pl.same {w w' : World} {I : Nat → Prop} {A : Option Addr} {fs : List (Int × List Int)} (h : Pl w I A fs) (hs : Same I w w') : Pl w' I A fs := fun hn => by
  obtain ⟨b, off, hA, hb, hf⟩ := h hn
  exact ⟨b, off, hA, hb, fun i hi => (hf i hi).same hb hs⟩
theorem Pl.mono {w : World} {I J : Nat → Prop} {A : Option Addr} {fs : List (Int × List Int)} (h : Pl w I A fs) (hI : ∀ k, I k → J k) : Pl w J A fs := fun hn => by
  obtain ⟨b, off, hA, hb, hf⟩ := h hn
  exact ⟨b, off, hA, hI _ hb, fun i hi => (hf i hi).mono hI⟩
/-- in a world that only has new blocks -/
theorem Pl.below {w w' : World} {A : Option Addr} {fs : List (Int × List Int)} (h : Pl w (fun k => k < w.heap.size) A fs) (hb : Below w.heap.size w w') : Pl w' (fun k => k < w.heap.size) A fs := h.same (Same.below hb fun _ h => h)
theorem Pl.under {w w' : World} {A : Option Addr} {fs : List (Int × List Int)} (h : Pl w (fun k => k < w.heap.size) A fs) (hb : Below w.heap.size w w') : Pl w' (fun k => k < w'.heap.size) A fs := (h.below hb).mono fun _ h => Nat.lt_of_lt_of_le h hb.size
theorem Is.under {w w' : World} {A : Option Addr} {l : List Int} (h : Is w (fun k => k < w.heap.size) A l) (hb : Below w.heap.size w w') : Is w' (fun k => k < w'.heap.size) A l := (Rd.same h (Same.below hb fun _ h => h)).mono fun _ h => Nat.lt_of_lt_of_le h hb.size
/-- a plan, by value -/
def plan (k : Int) (B : Option Addr) (n c : Nat) (A : Option Addr) (m d : Nat) : Value := .agg #[.int .i64 k, .slice B n c, .slice A m d]
/-- whether a plan is small -/
def fewB (fs : List (Int × List Int)) : Bool := ((fs.take 200).all fun f => decide (f.2.length ≤ 200)) && decide (fs.length ≤ 200)
theorem few_get {fs : List (Int × List Int)} (h : ∀ k, k < 200 → k < fs.length → (gF fs k).2.length ≤ 200) : ((fs.take 200).all fun f => decide (f.2.length ≤ 200)) = true := by
  rw [List.all_eq_true]
  intro f hf
  obtain ⟨j, hj, rfl⟩ := List.mem_iff_getElem.1 hf
  have hj2 : j < 200 ∧ j < fs.length := by simpa [Nat.lt_min] using hj
  have := h j hj2.1 hj2.2
  simpa [gF, List.getElem?_eq_getElem hj2.2] using this
theorem few_not {fs : List (Int × List Int)} {k : Nat} (h1 : k < 200) (h2 : k < fs.length) (h : ¬ (gF fs k).2.length ≤ 200) : fewB fs = false := by
  have : ((fs.take 200).all fun f => decide (f.2.length ≤ 200)) = false := by
    rw [List.all_eq_false]
    refine ⟨fs[k], ?_, ?_⟩
    · rw [List.mem_iff_getElem]
      exact ⟨k, by simp; omega, by simp⟩
    · simpa [gF, List.getElem?_eq_getElem h2] using h
  rw [fewB, this]
  rfl
set_option maxRecDepth 100000 in
set_option maxHeartbeats 1000000 in
theorem few8 (kd : Int) (B : Option Addr) (bn bc : Nat) (A : Option Addr) (c : Nat) (fs : List (Int × List Int)) (w : World) (h : Pl w (fun k => k < w.heap.size) A fs) (hn : fs.length ≤ 9223372036854775807) :
    Calls Try.prog 8 #[plan kd B bn bc A fs.length c] w (Bo (fewB fs) w) := by
  have H := Lib.hid h; clear h
  have hn0 : ∃ n, n = fs.length := ⟨_, rfl⟩
  obtain ⟨n, hn1⟩ := hn0
  unfold plan
  rw [← hn1] at hn ⊢
  have Hn1 := Lib.hid hn1; clear hn1
  go_enter Try.func8, Try.ntmps8
  go_wp2
  go_loopg [3] n (fun j i wr => ∃ m : Nat, m + j = n ∧ m ≤ 200 ∧ i = .int .i64 m ∧ (∀ k, k < m → (gF fs k).2.length ≤ 200) ∧ Below w.heap.size w wr ∧ wr.cell? ⟨w.heap.size, 2, none⟩ = some (.slice A n c))
  case atStart => exact ⟨0, by omega, by omega, rfl, fun k hk => by omega, (Below.refl _ _).alloc (Nat.le_refl _) _, cell_of_row _ _ _ _ _ _ (heap_at rfl)⟩
  case round =>
    obtain ⟨x, hmj, hx2, rfl, hall, hb, hbox⟩ := hrel
    have Hmj := Lib.hid hmj; have hmn : x ≤ n := by omega
    have Hall := Lib.hid hall
    clear hmj hall
    by_cases hlt : x < n
    · by_cases hl2 : x < 200
      · have hxi : (x : Int) < (n : Int) := by omega
        have hxi2 : (x : Int) < 200 := by omega
        obtain ⟨b, off, rfl, hI, hc⟩ := H.out (by rw [← Hn1.out]; omega)
        obtain ⟨g, P, pn, pc, s, K, kn, kc, y, Q, qn, qc, B2, c2, h0, h1, h2, h3, h4, h5, h6, h7, hi, hl⟩ := hc x (by rw [← Hn1.out]; exact hlt)
        have hcell : wr.cell? ⟨b, off + x * 8 + 7, none⟩ = some (.slice B2 (gF fs x).2.length c2) := (hb.cell (p := ⟨b, off + x * 8 + 7, none⟩) hI).trans h7
        clear hc h0 h1 h2 h3 h4 h5 h6 h7
        by_cases h200 : (gF fs x).2.length ≤ 200
        · have hgt : decide (((gF fs x).2.length : Int) > 200) = false := decide_eq_false (by omega)
          go_wp2
          go_roundg (gk - 1)
          case measure => have := Hmj.out; omega
          case rel =>
            refine ⟨x + 1, by have := Hmj.out; omega, by omega, by go_num, ?_, hb, hbox⟩
            intro k hk
            by_cases hkx : k = x
            · rw [hkx]; exact h200
            · exact Hall.out k (by omega)
        · have hgt : decide (((gF fs x).2.length : Int) > 200) = true := decide_eq_true (by omega)
          have hf := few_not hl2 (by rw [← Hn1.out]; exact hlt) h200
          have Hf := Lib.hid hf; clear hf
          go_wp2
          go_ret
          exact ⟨by rw [Hf.out]; rfl, hb⟩
      · have hxi : (x : Int) < (n : Int) := by omega
        have hxi2 : ¬ (x : Int) < 200 := by omega
        have hf : fewB fs = decide ((n : Int) ≤ 200) := by
          unfold fewB
          rw [few_get (fun k h1 h2 => Hall.out k (by omega)), ← Hn1.out]
          simp; omega
        have Hf := Lib.hid hf; clear hf
        go_wp2
        go_ret
        exact ⟨by rw [Hf.out]; rfl, hb⟩
    · have hx : x = n := by omega
      have hf : fewB fs = decide ((n : Int) ≤ 200) := by
        unfold fewB
        rw [few_get (fun k h1 h2 => Hall.out k (by rw [← Hn1.out] at h2; omega)), ← Hn1.out]
        simp; omega
      have Hf := Lib.hid hf; clear hf
      go_wp2
      go_ret
      exact ⟨by rw [Hf.out]; rfl, hb⟩
end Go.Proofs.Ytkldeelhlbhlmaa
