/- Lists of steps in rows; the steps of waves. -/
import Derived.Test.YtkldeelhlbhlmaaC
import Derived.Test.YtkldeelhlbhlmaaF
namespace Go.Proofs.Ytkldeelhlbhlmaa
open Go.RowKit
attribute [local irreducible] wpList Calls Code.wp
/-- cells that are steps, of height at most h below them -/
def Nd (w : World) (I : Nat → Prop) (h : Nat) (xs : List Value) (ts : List Tree) : Prop :=
  xs.length = ts.length * 3 ∧ ∀ i, i < ts.length → ∃ B c, xs[i * 3]? = some (.int .i64 (gT ts i).kind) ∧ xs[i * 3 + 1]? = some (.int .i64 (gT ts i).fetch) ∧ xs[i * 3 + 2]? = some (.slice B (gT ts i).list.length c) ∧ (gT ts i).list.length ≤ 9223372036854775807 ∧ Ns w I h B (gT ts i).list
theorem Nd.turn {w w' : World} {I J : Nat → Prop} {h : Nat} {xs : List Value} {ts : List Tree} (hd : Nd w I h xs ts) (hs : ∀ k, I k → w'.heap[k]? = w.heap[k]? ∧ J k) : Nd w' J h xs ts := by
  refine ⟨hd.1, fun i hi => ?_⟩
  obtain ⟨B, c, h1, h2, h3, h4, h5⟩ := hd.2 i hi
  exact ⟨B, c, h1, h2, h3, h4, Ns.mono (fun k hk => (hs k hk).2) (Ns.same (fun k hk => (hs k hk).1) h5)⟩
theorem Nd.nil (w : World) (I : Nat → Prop) (h : Nat) : Nd w I h [] [] := ⟨rfl, fun i hi => by simp at hi⟩
theorem gT_left {ts : List Tree} {t : Tree} {i : Nat} (h : i < ts.length) : gT (ts ++ [t]) i = gT ts i := by simp [gT, List.getElem?_append_left h]
theorem gT_last {ts : List Tree} {t : Tree} : gT (ts ++ [t]) ts.length = t := by simp [gT]
theorem Nd.snoc {w : World} {I : Nat → Prop} {h : Nat} {xs : List Value} {ts : List Tree} (hd : Nd w I h xs ts) {t : Tree} {B : Option Addr} {c : Nat} (ht : Ns w I h B t.list) (hl : t.list.length ≤ 9223372036854775807) :
    Nd w I h (xs ++ [.int .i64 t.kind, .int .i64 t.fetch, .slice B t.list.length c]) (ts ++ [t]) := by
  have hx := hd.1
  refine ⟨by simp [hx]; omega, fun i hi => ?_⟩
  by_cases hw : i < ts.length
  · obtain ⟨B', c', h1, h2, h3, h4, h5⟩ := hd.2 i hw
    rw [gT_left hw]
    exact ⟨B', c', by rw [List.getElem?_append_left (by omega)]; exact h1, by rw [List.getElem?_append_left (by omega)]; exact h2, by rw [List.getElem?_append_left (by omega)]; exact h3, h4, h5⟩
  · have hi' : i = ts.length := by simp at hi; omega
    subst hi'
    rw [gT_last]
    refine ⟨B, c, ?_, ?_, ?_, hl, ht⟩
    · rw [List.getElem?_append_right (by omega), show ts.length * 3 - xs.length = 0 from by omega]; rfl
    · rw [List.getElem?_append_right (by omega), show ts.length * 3 + 1 - xs.length = 1 from by omega]; rfl
    · rw [List.getElem?_append_right (by omega), show ts.length * 3 + 2 - xs.length = 2 from by omega]; rfl
theorem own_cellAt3 {w : World} {B e n : Nat} {v : Value} {xs : List Value} {A : Option Addr} {c : Nat} (h : w.ownsRow B e 3 v n xs) (hv : v = .slice A n c) (hn : 0 < n) :
    ∃ g, A = some ⟨g, 0, none⟩ ∧ v.ownBlock = some g ∧ B ≤ g ∧ g < w.heap.size ∧ ∀ j u, xs[j]? = some u → w.cell? ⟨g, j, none⟩ = some u := by
  subst hv
  rcases h.2 with ⟨_, h0⟩ | ⟨g, cap, cur, hv, hg, hb, h1, h2, h3, h4⟩
  · omega
  · simp only [Value.slice.injEq] at hv
    obtain ⟨rfl, -, rfl⟩ := hv
    refine ⟨g, rfl, rfl, hg, ?_, fun j u hu => ?_⟩
    · rcases Nat.lt_or_ge g w.heap.size with h' | h'
      · exact h'
      · rw [Array.getElem?_eq_none h'] at hb; cases hb
    · have hj : j < n * 3 := by have := (List.getElem?_eq_some_iff.1 hu).1; have := h.1; omega
      rw [cell_of_row w g j cur e (0, 0) hb]
      rw [← h4, List.getElem?_take_of_lt hj] at hu
      simpa using hu
/-- a row of steps that a call owns reads as its steps -/
theorem own_Ns {w : World} {B e : Nat} {ts : List Tree} {v : Value} {xs : List Value} {A : Option Addr} {c h : Nat} (ho : w.ownsRow B e 3 v ts.length xs) (hv : v = .slice A ts.length c) {J : Nat → Prop} (hd : Nd w J h xs ts) (hJ : ∀ k, k < w.heap.size → some k = v.ownBlock → J k) : Ns w J (h + 1) A ts := fun hn => by
  obtain ⟨g, hA, hvg, hg, hgs, hc⟩ := own_cellAt3 ho hv hn
  refine ⟨g, 0, hA, hJ g hgs hvg.symm, fun i hi => ?_⟩
  obtain ⟨B', c', h1, h2, h3, h4, h5⟩ := hd.2 i hi
  exact ⟨B', c', by rw [Nat.zero_add]; exact hc _ _ h1, by rw [Nat.zero_add]; exact hc _ _ h2, by rw [Nat.zero_add]; exact hc _ _ h3, h4, h5⟩
def leaf (i : Int) : Tree := .node 1 i []
def leaves (l : List Int) : List Tree := l.map leaf
/-- what a wave adds to the steps -/
def waveN (l : List Int) : List Tree := if l.length = 0 then [] else if l.length = 1 then [leaf (gI l 0)] else [.node 3 0 (leaves l)]
def stepsT (ws : List (List Int)) : Nat → List Tree
  | 0 => []
  | k + 1 => stepsT ws k ++ waveN (gL ws k)
def treeOf (ts : List Tree) : Tree := if ts.length = 0 then .node 0 0 [] else if ts.length = 1 then gT ts 0 else .node 2 0 ts
def treeI (ws : List (List Int)) : Tree := treeOf (stepsT ws ws.length)
theorem waveN_length (l : List Int) : (waveN l).length ≤ 1 := by unfold waveN; split <;> (try split) <;> simp
theorem stepsT_length (ws : List (List Int)) (k : Nat) : (stepsT ws k).length ≤ k := by
  induction k with
  | zero => simp [stepsT]
  | succ k ih => rw [stepsT, List.length_append]; have := waveN_length (gL ws k); omega
theorem nodeinfo : (Try.prog.info? 34).map (fun i => (i.zero, i.size, i.bytes)) = some (some (.agg #[.int .i64 0, .int .i64 0, .slice none 0 0]), 3, 40) := by kernel_rfl
theorem rnodeinfo : (Try.prog.info? 39).map (fun i => (i.zero, i.size, i.bytes)) = some (some (.agg #[.int .i64 0, .int .i64 0, .slice none 0 0]), 3, 40) := by kernel_rfl
end Go.Proofs.Ytkldeelhlbhlmaa
