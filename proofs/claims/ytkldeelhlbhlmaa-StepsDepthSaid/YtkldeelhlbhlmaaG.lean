/- The builder of waves. -/
import Derived.Test.YtkldeelhlbhlmaaF
namespace Go.Proofs.Ytkldeelhlbhlmaa
open Go.RowKit
attribute [local irreducible] wpList Calls Code.wp
/-- a builder at block b, all of it from block 'base' on: its list v, each wave in a row of its own -/
def Bl (w : World) (base b : Nat) (ws : List (List Int)) (v : Value) (xs : List Value) : Prop :=
  base ≤ b ∧ w.heap[b]? = some (.cells #[v] 57 (0, 0)) ∧ w.ownsRow base 31 1 v ws.length xs ∧ some b ≠ v.ownBlock ∧
    (∀ i, i < ws.length → ∃ u : Value, xs[i]? = some u ∧ w.ownsRow base 3 1 u (gL ws i).length (ints .i64 (gL ws i)) ∧ some b ≠ u.ownBlock ∧ ∀ g, u.ownBlock = some g → some g ≠ v.ownBlock) ∧
    (∀ (i j : Nat) (u u' : Value) (g : Nat), i ≠ j → xs[i]? = some u → xs[j]? = some u' → u.ownBlock = some g → some g ≠ u'.ownBlock)
def Blt (w : World) (base b : Nat) (ws : List (List Int)) : Prop := ∃ v xs, Bl w base b ws v xs
theorem heap_lt {w : World} {b : Nat} {o : Obj} (h : w.heap[b]? = some o) : b < w.heap.size := by
  rcases Nat.lt_or_ge b w.heap.size with h' | h'
  · exact h'
  · rw [Array.getElem?_eq_none h'] at h; cases h
theorem own_form {w : World} {B e s : Nat} {v : Value} {n : Nat} {xs : List Value} (h : w.ownsRow B e s v n xs) : ∃ A c, v = .slice A n c := by
  rcases h.2 with ⟨rfl, rfl⟩ | ⟨g, cap, cur, rfl, _⟩
  · exact ⟨_, _, rfl⟩
  · exact ⟨_, _, rfl⟩
theorem set_heap {w : World} {g i : Nat} {x : Value} {cur : Array Value} {e : TypeId} {fz : Nat × Nat} (h : w.heap[g]? = some (.cells cur e fz)) : (w.setCell ⟨g, i, none⟩ x).heap[g]? = some (.cells (cur.setIfInBounds i x) e fz) := by
  simp only [World.setCell, Array.getElem?_modify]
  simp [h]
theorem own_set {w : World} {B e : Nat} {v : Value} {n : Nat} {xs : List Value} (h : w.ownsRow B e 1 v n xs) {g i : Nat} (hg : v.ownBlock = some g) (hi : i < n) (x : Value) : (w.setCell ⟨g, i, none⟩ x).ownsRow B e 1 v n (xs.set i x) := by
  rcases h.2 with ⟨rfl, rfl⟩ | ⟨g', cap, cur, rfl, hB, hb, hn, hm, hs, ht⟩
  · omega
  · obtain rfl : g' = g := by simpa [Value.ownBlock] using hg
    refine ⟨by rw [List.length_set]; exact h.1, .inr ⟨g', cap, _, rfl, hB, set_heap hb, hn, hm, by simpa using hs, ?_⟩⟩
    rw [Array.toList_setIfInBounds, List.take_set, ht]
theorem set_other {w : World} {a : Addr} {x : Value} {k : Nat} (h : k ≠ a.block) : (w.setCell a x).heap[k]? = w.heap[k]? := Below.heap_setCell w a x k h
theorem gL_left {ws : List (List Int)} {l : List Int} {i : Nat} (h : i < ws.length) : gL (ws ++ [l]) i = gL ws i := by simp [gL, List.getElem?_append_left h]
theorem gL_last {ws : List (List Int)} {l : List Int} : gL (ws ++ [l]) ws.length = l := by simp [gL]
theorem Bl.push {w w' : World} {base b : Nat} {ws : List (List Int)} {v v' : Value} {xs : List Value} (h : Bl w base b ws v xs) (hown : w'.ownsRow base 31 1 v' (ws.length + 1) (xs ++ [.slice none 0 0])) (hg : w.grownBy w' v.ownBlock)
    (ha : v'.ownBlock = v.ownBlock ∨ ∃ g, v'.ownBlock = some g ∧ w.heap.size ≤ g) : Bl (w'.setCell ⟨b, 0, none⟩ v') base b (ws ++ [[]]) v' (xs ++ [.slice none 0 0]) := by
  obtain ⟨h1, h2, h3, h4, h5, h6⟩ := h
  have hb := heap_lt h2
  have hbv : some b ≠ v'.ownBlock := by
    rcases ha with e | ⟨g, e, hle⟩
    · rw [e]; exact h4
    · rw [e]; intro e2; injection e2 with e2; omega
  have hxl : xs.length = ws.length := by have := h3.1; omega
  refine ⟨h1, ?_, ?_, hbv, ?_, ?_⟩
  · rw [set_heap ((hg.block b hb h4).trans h2)]; rfl
  · rw [List.length_append]
    exact own_turn hown fun k hk => set_other (fun e => hbv (by rw [hk]; congr 1; exact e.symm))
  · intro i hi
    by_cases hw : i < ws.length
    · obtain ⟨u, hu, ho, hbu, hne⟩ := h5 i hw
      rw [gL_left hw]
      refine ⟨u, by rw [List.getElem?_append_left (by omega)]; exact hu, ?_, hbu, ?_⟩
      · refine own_turn (own_turn ho fun k hk => hg.block k (ho.lt k hk).2 (hne k hk)) fun k hk => set_other (fun e => hbu (by rw [hk]; congr 1; exact e.symm))
      · intro g hgu
        rcases ha with e | ⟨g', e, hle⟩
        · rw [e]; exact hne g hgu
        · rw [e]; intro e2; injection e2 with e2; have := (ho.lt g hgu).2; omega
    · have hi' : i = ws.length := by simp at hi; omega
      subst hi'
      rw [gL_last]
      refine ⟨.slice none 0 0, by rw [← hxl]; simp, World.ownsRow_nil _ _ _ _, by simp [Value.ownBlock], fun g hg => by simp [Value.ownBlock] at hg⟩
  · intro i j u u' g hij hu hu' hg'
    by_cases hi : i < xs.length
    · by_cases hj : j < xs.length
      · rw [List.getElem?_append_left hi] at hu
        rw [List.getElem?_append_left hj] at hu'
        exact h6 i j u u' g hij hu hu' hg'
      · have hjl := (List.getElem?_eq_some_iff.1 hu').1
        simp at hjl
        have hj' : j = xs.length := by omega
        subst hj'
        simp at hu'
        subst hu'
        simp [Value.ownBlock]
    · have hil := (List.getElem?_eq_some_iff.1 hu).1
      simp at hil
      have hi' : i = xs.length := by omega
      subst hi'
      simp at hu
      subst hu
      simp [Value.ownBlock] at hg'
theorem Bl.put {w w' : World} {base b : Nat} {ws : List (List Int)} {v u u' : Value} {xs : List Value} {i g : Nat} {k : Int} (h : Bl w base b ws v xs) (hi : i < ws.length) (hu : xs[i]? = some u) (hv : v.ownBlock = some g)
    (hown : w'.ownsRow base 3 1 u' ((gL ws i).length + 1) (ints .i64 (gL ws i) ++ [.int .i64 k])) (hg : w.grownBy w' u.ownBlock)
    (ha : u'.ownBlock = u.ownBlock ∨ ∃ g, u'.ownBlock = some g ∧ w.heap.size ≤ g) : Bl (w'.setCell ⟨g, i, none⟩ u') base b (ws.set i (gL ws i ++ [k])) v (xs.set i u') := by
  obtain ⟨h1, h2, h3, h4, h5, h6⟩ := h
  have hb := heap_lt h2
  have hgl := (h3.lt g hv).2
  have hxl : xs.length = ws.length := by have := h3.1; omega
  obtain ⟨u0, hu0, ho, hbu, hne⟩ := h5 i hi
  obtain rfl : u0 = u := by rw [hu] at hu0; injection hu0 with e; exact e.symm
  have hnew : ∀ m, m < w.heap.size → some m ≠ u0.ownBlock → some m ≠ u'.ownBlock := by
    intro m hm hmu
    rcases ha with e | ⟨g', e, hle⟩
    · rw [e]; exact hmu
    · rw [e]; intro e2; injection e2 with e2; omega
  have hgu : some g ≠ u0.ownBlock := fun e => hne g e.symm hv.symm
  have hbg : b ≠ g := fun e => h4 (by rw [hv, e])
  refine ⟨h1, ?_, ?_, h4, ?_, ?_⟩
  · rw [set_other (show b ≠ g from hbg), hg.block b hb hbu]; exact h2
  · rw [List.length_set]
    refine own_set (own_turn h3 fun m hm => ?_) hv hi u'
    obtain rfl : g = m := by rw [hv] at hm; injection hm
    exact hg.block g hgl hgu
  · intro j hj
    rw [List.length_set] at hj
    by_cases hij : i = j
    · subst hij
      have e : gL (ws.set i (gL ws i ++ [k])) i = gL ws i ++ [k] := by simp [gL, hi]
      rw [e, ints_append, List.length_append]
      refine ⟨u', by simp [hxl, hi], ?_, hnew b hb hbu, ?_⟩
      · refine own_turn hown fun m hm => set_other (fun (e : m = g) => ?_)
        subst e
        exact hnew m hgl hgu hm.symm
      · intro m hm e
        rw [hv] at e; injection e with e; subst e
        exact hnew m hgl hgu hm.symm
    · have e : gL (ws.set i (gL ws i ++ [k])) j = gL ws j := by simp [gL, List.getElem?_set, hij]
      rw [e]
      obtain ⟨y, hy, hoy, hby, hney⟩ := h5 j hj
      refine ⟨y, by rw [List.getElem?_set_ne hij]; exact hy, ?_, hby, hney⟩
      refine own_turn (own_turn hoy fun m hm => hg.block m (hoy.lt m hm).2 (h6 j i y u0 m (fun e => hij e.symm) hy hu hm)) fun m hm => set_other (fun (e : m = g) => ?_)
      subst e
      exact hney m hm hv.symm
  · intro a c y y' m hac hy hy' hm
    by_cases hai : i = a
    · subst hai
      rw [List.getElem?_set_self (by omega)] at hy
      injection hy with hy; subst hy
      rw [List.getElem?_set_ne hac] at hy'
      rcases ha with e | ⟨g', e, hle⟩
      · rw [e] at hm
        exact h6 i c u0 y' m hac hu hy' hm
      · rw [e] at hm; injection hm with hm; subst hm
        intro e2
        have hcl : c < ws.length := by have := (List.getElem?_eq_some_iff.1 hy').1; omega
        obtain ⟨y2, hy2, hoy, _, _⟩ := h5 c hcl
        rw [hy'] at hy2; injection hy2 with hy2; subst hy2
        have := (hoy.lt _ e2.symm).2; omega
    · rw [List.getElem?_set_ne hai] at hy
      by_cases hci : i = c
      · subst hci
        rw [List.getElem?_set_self (by omega)] at hy'
        injection hy' with hy'; subst hy'
        have hal : a < ws.length := by have := (List.getElem?_eq_some_iff.1 hy).1; omega
        obtain ⟨y2, hy2, hoy, _, _⟩ := h5 a hal
        rw [hy] at hy2; injection hy2 with hy2; subst hy2
        exact hnew m (hoy.lt m hm).2 (h6 a i y u0 m hac hy hu hm)
      · rw [List.getElem?_set_ne hci] at hy'
        exact h6 a c y y' m hac hy hy' hm
def padTo (ws : List (List Int)) (d : Nat) : List (List Int) := ws ++ List.replicate (d - ws.length) []
def addTo (ws : List (List Int)) (k : Int) (d : Nat) : List (List Int) := (padTo ws d).set (d - 1) (gL (padTo ws d) (d - 1) ++ [k])
end Go.Proofs.Ytkldeelhlbhlmaa
