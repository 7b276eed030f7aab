/- build: the same step twice. -/
import Derived.Test.YtkldeelhlbhlmaaV
import Derived.Deep.AppendLies
namespace Go.Proofs.Ytkldeelhlbhlmaa
open Go.RowKit
attribute [local irreducible] wpList Calls Code.wp
/-- the list of steps: kinds and owners -/
def gS (L : List (Int × Int)) (i : Nat) : Int × Int := L.getD i (0, 0)
/-- the steps from a+1 up to m (not included) that belong to a, each made by g -/
def kidsT (L : List (Int × Int)) (a : Nat) (g : Nat → Tree) : Nat → List Tree
  | 0 => []
  | m + 1 => if a < m ∧ (gS L m).2 = (a : Int) then kidsT L a g m ++ [g m] else kidsT L a g m
/-- the step with index a; h: how deep to go -/
def bT (L : List (Int × Int)) : Nat → Nat → Tree
  | 0, a => .node (gS L a).1 a []
  | h + 1, a => .node (gS L a).1 a (kidsT L a (bT L h) L.length)
theorem kidsT_length (L : List (Int × Int)) (a : Nat) (g : Nat → Tree) : ∀ m, (kidsT L a g m).length ≤ m
  | 0 => by simp [kidsT]
  | m + 1 => by
    have := kidsT_length L a g m
    rw [kidsT]; split
    · simp; omega
    · omega
theorem kidsT_low (L : List (Int × Int)) (a : Nat) (g : Nat → Tree) : ∀ m, m ≤ a + 1 → kidsT L a g m = []
  | 0, _ => rfl
  | m + 1, h => by rw [kidsT, if_neg (by omega), kidsT_low L a g m (by omega)]
/-- the list as it lies -/
def Sp (w : World) (I : Nat → Prop) (A : Option Addr) (L : List (Int × Int)) : Prop :=
  0 < L.length → ∃ b off, A = some ⟨b, off, none⟩ ∧ I b ∧ ∀ i, i < L.length → w.cell? ⟨b, off + i * 2, none⟩ = some (.int .i64 (gS L i).1) ∧ w.cell? ⟨b, off + i * 2 + 1, none⟩ = some (.int .i64 (gS L i).2)
theorem Sp.turn {w w' : World} {I J : Nat → Prop} {A : Option Addr} {L : List (Int × Int)} (h : Sp w I A L) (hs : ∀ k, I k → w'.heap[k]? = w.heap[k]? ∧ J k) : Sp w' J A L := fun hn => by
  obtain ⟨b, off, hA, hb, hc⟩ := h hn
  refine ⟨b, off, hA, (hs b hb).2, fun i hi => ?_⟩
  have e : ∀ o, w'.cell? ⟨b, o, none⟩ = w.cell? ⟨b, o, none⟩ := fun o => World.cell?_of_block (w := w) (hs b hb).1
  exact ⟨(e _).trans (hc i hi).1, (e _).trans (hc i hi).2⟩
/-- two steps come back, the same one, in new memory alone -/
def Bu (h : Nat) (t : Tree) (w : World) (e : Ending) (w' : World) : Prop := ∃ A c A' c', e = .returned (.tuple #[tree A c t, tree A' c' t]) ∧
  Ns w' (fun k => w.heap.size ≤ k ∧ k < w'.heap.size) h A t.list ∧ Ns w' (fun k => w.heap.size ≤ k ∧ k < w'.heap.size) h A' t.list ∧ Below w.heap.size w w'
/-- the blocks of the finished steps -/
def Jx (base : Nat) (v1 v2 : Value) (w : World) (k : Nat) : Prop := base ≤ k ∧ k < w.heap.size ∧ some k ≠ v1.ownBlock ∧ some k ≠ v2.ownBlock
/-- the two steps under way: their boxes, the two results' boxes, the two rows of steps -/
structure Bs (base ba bb r0 r1 : Nat) (kd a : Int) (h : Nat) (v1 v2 u1 u2 : Value) (xs1 xs2 : List Value) (ts1 ts2 : List Tree) (w : World) : Prop where
  xa : w.heap[ba]? = some (.cells #[.int .i64 kd, .int .i64 a, u1] 34 (0, 0))
  xb : w.heap[bb]? = some (.cells #[.int .i64 kd, .int .i64 a, u2] 39 (0, 0))
  z0 : w.heap[r0]? = some (.cells #[.int .i64 0, .int .i64 0, .slice none 0 0] 34 (0, 0))
  z1 : w.heap[r1]? = some (.cells #[.int .i64 0, .int .i64 0, .slice none 0 0] 39 (0, 0))
  o1 : w.ownsRow base 34 3 v1 ts1.length xs1
  o2 : w.ownsRow base 39 3 v2 ts2.length xs2
  d1 : Nd w (Jx base v1 v2 w) h xs1 ts1
  d2 : Nd w (Jx base v1 v2 w) h xs2 ts2
  lt : ba < base ∧ bb < base ∧ r0 < base ∧ r1 < base ∧ base ≤ w.heap.size
  ne : bb ≠ ba ∧ r0 ≠ ba ∧ r1 ≠ ba ∧ r0 ≠ bb ∧ r1 ≠ bb ∧ r1 ≠ r0
section
variable {base ba bb r0 r1 : Nat} {kd a : Int} {h : Nat} {v1 v2 u1 u2 : Value} {xs1 xs2 : List Value} {ts1 ts2 : List Tree} {w w' : World}
theorem own_apart (h1 : w.ownsRow base 34 3 v1 ts1.length xs1) (h2 : w.ownsRow base 39 3 v2 ts2.length xs2) {k : Nat} (e1 : v1.ownBlock = some k) : v2.ownBlock ≠ some k := by
  intro e2
  rcases h1.2 with ⟨rfl, _⟩ | ⟨g, c, cur, rfl, _, hb, _⟩
  · simp [Value.ownBlock] at e1
  · rcases h2.2 with ⟨rfl, _⟩ | ⟨g', c', cur', rfl, _, hb', _⟩
    · simp [Value.ownBlock] at e2
    · simp only [Value.ownBlock, Option.some.injEq] at e1 e2
      subst e1; subst e2
      rw [hb] at hb'
      simp at hb'
theorem Bs.below (s : Bs base ba bb r0 r1 kd a h v1 v2 u1 u2 xs1 xs2 ts1 ts2 w) (hb : Below w.heap.size w w') : Bs base ba bb r0 r1 kd a h v1 v2 u1 u2 xs1 xs2 ts1 ts2 w' := by
  obtain ⟨l1, l2, l3, l4, l5⟩ := s.lt
  have hj : ∀ k, Jx base v1 v2 w k → w'.heap[k]? = w.heap[k]? ∧ Jx base v1 v2 w' k := fun k hk => ⟨hb.block k hk.2.1, hk.1, Nat.lt_of_lt_of_le hk.2.1 hb.size, hk.2.2⟩
  exact ⟨(hb.block _ (by omega)).trans s.xa, (hb.block _ (by omega)).trans s.xb, (hb.block _ (by omega)).trans s.z0, (hb.block _ (by omega)).trans s.z1,
    own_turn s.o1 (fun k hk => hb.block k (s.o1.lt k hk).2), own_turn s.o2 (fun k hk => hb.block k (s.o2.lt k hk).2), s.d1.turn hj, s.d2.turn hj, ⟨l1, l2, l3, l4, Nat.le_trans l5 hb.size⟩, s.ne⟩
theorem Jx_app1 {v' : Value} (hg : w.grownBy w' v1.ownBlock) (hat : v'.ownBlock = v1.ownBlock ∨ ∃ g, v'.ownBlock = some g ∧ w.heap.size ≤ g) (k : Nat) (hk : Jx base v1 v2 w k) : w'.heap[k]? = w.heap[k]? ∧ Jx base v' v2 w' k :=
  ⟨hg.block k hk.2.1 hk.2.2.1, hk.1, Nat.lt_of_lt_of_le hk.2.1 hg.size, by
    rcases hat with e | ⟨g, e, hle⟩
    · rw [e]; exact hk.2.2.1
    · rw [e]; intro h2; injection h2 with h2; have := hk.2.1; omega, hk.2.2.2⟩
theorem Jx_set {z o : Nat} {u : Value} (hz : z < base) (k : Nat) (hk : Jx base v1 v2 w k) : (w.setCell ⟨z, o, none⟩ u).heap[k]? = w.heap[k]? ∧ Jx base v1 v2 (w.setCell ⟨z, o, none⟩ u) k := by
  have hs : (w.setCell ⟨z, o, none⟩ u).heap.size = w.heap.size := by simp [World.setCell]
  exact ⟨set_other (show k ≠ z by have := hk.1; omega), hk.1, by rw [hs]; exact hk.2.1, hk.2.2⟩
theorem Ns.turn {I J : Nat → Prop} {h : Nat} {A : Option Addr} {l : List Tree} (hd : Ns w I h A l) (hs : ∀ k, I k → w'.heap[k]? = w.heap[k]? ∧ J k) : Ns w' J h A l := Ns.mono (fun k hk => (hs k hk).2) (Ns.same (fun k hk => (hs k hk).1) hd)
theorem Bs.fresh (s : Bs base ba bb r0 r1 kd a h v1 v2 u1 u2 xs1 xs2 ts1 ts2 w) {k : Nat} (hk : w.heap.size ≤ k) (hl : k < w'.heap.size) : Jx base v1 v2 w' k :=
  ⟨Nat.le_trans s.lt.2.2.2.2 hk, hl, fun e => by have := (s.o1.lt k e.symm).2; omega, fun e => by have := (s.o2.lt k e.symm).2; omega⟩
theorem Bs.app1 (s : Bs base ba bb r0 r1 kd a h v1 v2 u1 u2 xs1 xs2 ts1 ts2 w) {t : Tree} {A : Option Addr} {c n : Nat} {v' : Value} {cs : List Value} (hn : n = t.list.length) (hcs : cs = [.int .i64 t.kind, .int .i64 t.fetch, .slice A n c]) (hl : n ≤ 9223372036854775807)
    (ht : Ns w (Jx base v1 v2 w) h A t.list) (ho : w'.ownsRow base 34 3 v' (ts1.length + 1) (xs1 ++ cs)) (hg : w.grownBy w' v1.ownBlock) (hat : v'.ownBlock = v1.ownBlock ∨ ∃ g, v'.ownBlock = some g ∧ w.heap.size ≤ g) :
    Bs base ba bb r0 r1 kd a h v' v2 u1 u2 (xs1 ++ cs) xs2 (ts1 ++ [t]) ts2 w' := by
  subst hn; subst hcs
  obtain ⟨l1, l2, l3, l4, l5⟩ := s.lt
  have hlow : ∀ k, k < base → w'.heap[k]? = w.heap[k]? := fun k hk => hg.block k (by omega) (fun e => by have := (s.o1.lt k e.symm).1; omega)
  have hj : ∀ k, Jx base v1 v2 w k → w'.heap[k]? = w.heap[k]? ∧ Jx base v' v2 w' k := fun k hk => ⟨hg.block k hk.2.1 hk.2.2.1, hk.1, Nat.lt_of_lt_of_le hk.2.1 hg.size, by
    rcases hat with e | ⟨g, e, hle⟩
    · rw [e]; exact hk.2.2.1
    · rw [e]; intro h2; injection h2 with h2; have := hk.2.1; omega, hk.2.2.2⟩
  exact ⟨(hlow _ l1).trans s.xa, (hlow _ l2).trans s.xb, (hlow _ l3).trans s.z0, (hlow _ l4).trans s.z1, by rw [List.length_append]; exact ho,
    own_turn s.o2 (fun k hk => hg.block k (s.o2.lt k hk).2 (fun e => own_apart s.o1 s.o2 e.symm hk)), (s.d1.snoc ht hl).turn hj, s.d2.turn hj, ⟨l1, l2, l3, l4, Nat.le_trans l5 hg.size⟩, s.ne⟩
theorem Bs.app2 (s : Bs base ba bb r0 r1 kd a h v1 v2 u1 u2 xs1 xs2 ts1 ts2 w) {t : Tree} {A : Option Addr} {c n : Nat} {v' : Value} {cs : List Value} (hn : n = t.list.length) (hcs : cs = [.int .i64 t.kind, .int .i64 t.fetch, .slice A n c]) (hl : n ≤ 9223372036854775807)
    (ht : Ns w (Jx base v1 v2 w) h A t.list) (ho : w'.ownsRow base 39 3 v' (ts2.length + 1) (xs2 ++ cs)) (hg : w.grownBy w' v2.ownBlock) (hat : v'.ownBlock = v2.ownBlock ∨ ∃ g, v'.ownBlock = some g ∧ w.heap.size ≤ g) :
    Bs base ba bb r0 r1 kd a h v1 v' u1 u2 xs1 (xs2 ++ cs) ts1 (ts2 ++ [t]) w' := by
  subst hn; subst hcs
  obtain ⟨l1, l2, l3, l4, l5⟩ := s.lt
  have hlow : ∀ k, k < base → w'.heap[k]? = w.heap[k]? := fun k hk => hg.block k (by omega) (fun e => by have := (s.o2.lt k e.symm).1; omega)
  have hj : ∀ k, Jx base v1 v2 w k → w'.heap[k]? = w.heap[k]? ∧ Jx base v1 v' w' k := fun k hk => ⟨hg.block k hk.2.1 hk.2.2.2, hk.1, Nat.lt_of_lt_of_le hk.2.1 hg.size, hk.2.2.1, by
    rcases hat with e | ⟨g, e, hle⟩
    · rw [e]; exact hk.2.2.2
    · rw [e]; intro h2; injection h2 with h2; have := hk.2.1; omega⟩
  exact ⟨(hlow _ l1).trans s.xa, (hlow _ l2).trans s.xb, (hlow _ l3).trans s.z0, (hlow _ l4).trans s.z1,
    own_turn s.o1 (fun k hk => hg.block k (s.o1.lt k hk).2 (fun e => own_apart s.o1 s.o2 hk e.symm)), by rw [List.length_append]; exact ho, s.d1.turn hj, (s.d2.snoc ht hl).turn hj, ⟨l1, l2, l3, l4, Nat.le_trans l5 hg.size⟩, s.ne⟩
theorem Bs.set1 (s : Bs base ba bb r0 r1 kd a h v1 v2 u1 u2 xs1 xs2 ts1 ts2 w) (u : Value) : Bs base ba bb r0 r1 kd a h v1 v2 u u2 xs1 xs2 ts1 ts2 (w.setCell ⟨ba, 2, none⟩ u) := by
  obtain ⟨l1, l2, l3, l4, l5⟩ := s.lt
  obtain ⟨n1, n2, n3, n4, n5, n6⟩ := s.ne
  have hs : (w.setCell ⟨ba, 2, none⟩ u).heap.size = w.heap.size := by simp [World.setCell]
  have ho : ∀ k, k ≠ ba → (w.setCell ⟨ba, 2, none⟩ u).heap[k]? = w.heap[k]? := fun k hk => set_other hk
  have hj : ∀ k, Jx base v1 v2 w k → (w.setCell ⟨ba, 2, none⟩ u).heap[k]? = w.heap[k]? ∧ Jx base v1 v2 (w.setCell ⟨ba, 2, none⟩ u) k := fun k hk => ⟨ho k (by have := hk.1; omega), hk.1, by rw [hs]; exact hk.2.1, hk.2.2⟩
  exact ⟨by rw [set_heap s.xa]; rfl, (ho _ n1).trans s.xb, (ho _ n2).trans s.z0, (ho _ n3).trans s.z1, own_turn s.o1 (fun k hk => ho k (by have := (s.o1.lt k hk).1; omega)), own_turn s.o2 (fun k hk => ho k (by have := (s.o2.lt k hk).1; omega)), s.d1.turn hj, s.d2.turn hj, ⟨l1, l2, l3, l4, by rw [hs]; exact l5⟩, s.ne⟩
theorem Bs.set2 (s : Bs base ba bb r0 r1 kd a h v1 v2 u1 u2 xs1 xs2 ts1 ts2 w) (u : Value) : Bs base ba bb r0 r1 kd a h v1 v2 u1 u xs1 xs2 ts1 ts2 (w.setCell ⟨bb, 2, none⟩ u) := by
  obtain ⟨l1, l2, l3, l4, l5⟩ := s.lt
  obtain ⟨n1, n2, n3, n4, n5, n6⟩ := s.ne
  have hs : (w.setCell ⟨bb, 2, none⟩ u).heap.size = w.heap.size := by simp [World.setCell]
  have ho : ∀ k, k ≠ bb → (w.setCell ⟨bb, 2, none⟩ u).heap[k]? = w.heap[k]? := fun k hk => set_other hk
  have hj : ∀ k, Jx base v1 v2 w k → (w.setCell ⟨bb, 2, none⟩ u).heap[k]? = w.heap[k]? ∧ Jx base v1 v2 (w.setCell ⟨bb, 2, none⟩ u) k := fun k hk => ⟨ho k (by have := hk.1; omega), hk.1, by rw [hs]; exact hk.2.1, hk.2.2⟩
  exact ⟨(ho _ (fun e => n1 e.symm)).trans s.xa, by rw [set_heap s.xb]; rfl, (ho _ n4).trans s.z0, (ho _ n5).trans s.z1, own_turn s.o1 (fun k hk => ho k (by have := (s.o1.lt k hk).1; omega)), own_turn s.o2 (fun k hk => ho k (by have := (s.o2.lt k hk).1; omega)), s.d1.turn hj, s.d2.turn hj, ⟨l1, l2, l3, l4, by rw [hs]; exact l5⟩, s.ne⟩
/-- two results in boxes -/
theorem results_cell_row2 {P : Program} {fn : Func} {p q : Tmp} {t1 t2 : TypeId} (h : fn.results = #[.cell p t1, .cell q t2]) (tmps : Array Value) (w : World) (g1 g2 : Nat) (s1 s2 : TypeId) (cs1 cs2 : Array Value) (d1 d2 : TypeDesc)
    (hp : tmps.getD p undef = .pointer (some ⟨g1, 0, none⟩)) (hq : tmps.getD q undef = .pointer (some ⟨g2, 0, none⟩)) (hg1 : w.heap[g1]? = some (.cells cs1 s1 (0, 0))) (hg2 : w.heap[g2]? = some (.cells cs2 s2 (0, 0)))
    (hu1 : P.underlying t1 = some d1) (hu2 : P.underlying t2 = some d2) (hd1 : (match d1 with | .struct _ | .array _ _ => true | _ => false) = true) (hd2 : (match d2 with | .struct _ | .array _ _ => true | _ => false) = true)
    (hi1 : (P.info? t1).map (·.size) = some cs1.size) (hi2 : (P.info? t2).map (·.size) = some cs2.size) :
    (results fn tmps).run P w = .ok (.tuple #[.agg cs1, .agg cs2]) w := by
  have hp' : tmps[p]?.getD undef = .pointer (some ⟨g1, 0, none⟩) := by simpa using hp
  have hq' : tmps[q]?.getD undef = .pointer (some ⟨g2, 0, none⟩) := by simpa using hq
  simp [results, h, hp', hq', asAddr, run_loadVar_row w g1 s1 t1 cs1 (0, 0) d1 hg1 hu1 hd1 hi1, run_loadVar_row w g2 s2 t2 cs2 (0, 0) d2 hg2 hu2 hd2 hi2, Sem.run_bind, Result.andThen]
/-- behind the first append and its store -/
theorem mid1 {h : Nat} {A1 A2 A3 A4 : Option Addr} {c1 c2 c3 c4 z : Nat} {k f : Int} {l : List Tree} {w3 w4 : World} {ts : List Tree} {v' : Value}
    (s : Bs base ba bb r0 r1 kd a h (.slice A1 ts.length c1) (.slice A2 ts.length c2) (.slice A1 ts.length c1) (.slice A2 ts.length c2) xs1 xs2 ts ts w3)
    (n3 : Ns w3 (Jx base (.slice A1 ts.length c1) (.slice A2 ts.length c2) w3) h A3 l) (n4 : Ns w3 (Jx base (.slice A1 ts.length c1) (.slice A2 ts.length c2) w3) h A4 l) (hl : l.length ≤ 9223372036854775807)
    (hy : w3.heap[z]? = some (.cells #[.int .i64 k, .int .i64 f, .slice A4 l.length c4] 39 (0, 0))) (hz : ∀ y, (Value.slice A1 ts.length c1).ownBlock = some y → y < z) (hzb : base ≤ z)
    (ho : w4.ownsRow base 34 3 v' (ts.length + 1) (xs1 ++ [.int .i64 k, .int .i64 f, .slice A3 l.length c3])) (hg : w3.grownBy w4 (Value.slice A1 ts.length c1).ownBlock) (hat : v'.ownBlock = (Value.slice A1 ts.length c1).ownBlock ∨ ∃ g, v'.ownBlock = some g ∧ w3.heap.size ≤ g) :
    w4.cell? ⟨ba, 2, none⟩ = some (.slice A1 ts.length c1) ∧ w4.frozen? ⟨ba, 2, none⟩ = false ∧
    (w4.setCell ⟨ba, 2, none⟩ v').cell? ⟨bb, 2, none⟩ = some (.slice A2 ts.length c2) ∧
    (w4.setCell ⟨ba, 2, none⟩ v').cell? ⟨z, 0, none⟩ = some (.int .i64 k) ∧ (w4.setCell ⟨ba, 2, none⟩ v').cell? ⟨z, 1, none⟩ = some (.int .i64 f) ∧ (w4.setCell ⟨ba, 2, none⟩ v').cell? ⟨z, 2, none⟩ = some (.slice A4 l.length c4) ∧
    Bs base ba bb r0 r1 kd a h v' (.slice A2 ts.length c2) v' (.slice A2 ts.length c2) (xs1 ++ [.int .i64 k, .int .i64 f, .slice A3 l.length c3]) xs2 (ts ++ [.node k f l]) ts (w4.setCell ⟨ba, 2, none⟩ v') ∧
    Ns (w4.setCell ⟨ba, 2, none⟩ v') (Jx base v' (.slice A2 ts.length c2) (w4.setCell ⟨ba, 2, none⟩ v')) h A4 l := by
  have s4 := s.app1 (t := .node k f l) rfl rfl hl n3 ho hg hat
  have s5 := s4.set1 v'
  have hy4 := (hg.block z (heap_lt hy) (fun e => by have := hz z e.symm; omega)).trans hy
  have hy5 : (w4.setCell ⟨ba, 2, none⟩ v').heap[z]? = _ := (set_other (show z ≠ ba by have := s.lt.1; omega)).trans hy4
  exact ⟨cell_heap s4.xa rfl, frozen_heap s4.xa, cell_heap s5.xb rfl, cell_heap hy5 rfl, cell_heap hy5 rfl, cell_heap hy5 rfl, s5, (n4.turn (Jx_app1 hg hat)).turn (Jx_set s.lt.1)⟩
theorem six {r0 r1 k : Nat} {x0 x1 x2 y0 y1 y2 : Value} (h0 : k ≠ r0) (h1 : k ≠ r1) :
    ((((((w.setCell ⟨r0, 0, none⟩ x0).setCell ⟨r0, 1, none⟩ x1).setCell ⟨r0, 2, none⟩ x2).setCell ⟨r1, 0, none⟩ y0).setCell ⟨r1, 1, none⟩ y1).setCell ⟨r1, 2, none⟩ y2).heap[k]? = w.heap[k]? := (set3 h1).trans (set3 h0)
/-- behind the second append -/
theorem mid2 {h : Nat} {A2 A4 : Option Addr} {c2 c4 : Nat} {k f : Int} {l : List Tree} {w5 w6 : World} {ts ts1 : List Tree} {v' v2' : Value}
    (s : Bs base ba bb r0 r1 kd a h v' (.slice A2 ts.length c2) v' (.slice A2 ts.length c2) xs1 xs2 ts1 ts w5)
    (n4 : Ns w5 (Jx base v' (.slice A2 ts.length c2) w5) h A4 l) (hl : l.length ≤ 9223372036854775807)
    (ho : w6.ownsRow base 39 3 v2' (ts.length + 1) (xs2 ++ [.int .i64 k, .int .i64 f, .slice A4 l.length c4])) (hg : w5.grownBy w6 (Value.slice A2 ts.length c2).ownBlock) (hat : v2'.ownBlock = (Value.slice A2 ts.length c2).ownBlock ∨ ∃ g, v2'.ownBlock = some g ∧ w5.heap.size ≤ g) :
    w6.cell? ⟨bb, 2, none⟩ = some (.slice A2 ts.length c2) ∧ w6.frozen? ⟨bb, 2, none⟩ = false ∧
    Bs base ba bb r0 r1 kd a h v' v2' v' v2' xs1 (xs2 ++ [.int .i64 k, .int .i64 f, .slice A4 l.length c4]) ts1 (ts ++ [.node k f l]) (w6.setCell ⟨bb, 2, none⟩ v2') := by
  have s6 := s.app2 (t := .node k f l) rfl rfl hl n4 ho hg hat
  exact ⟨cell_heap s6.xb rfl, frozen_heap s6.xb, s6.set2 v2'⟩
end
end Go.Proofs.Ytkldeelhlbhlmaa
