/- How often each fetch is a leaf of a step. -/
import Derived.Test.YtkldeelhlbhlmaaP
namespace Go.Proofs.Ytkldeelhlbhlmaa
open Go.RowKit
attribute [local irreducible] wpList Calls Code.wp
mutual
/-- the fetches of the leaves, in their order -/
def leafs : Tree → List Int
  | .node k f l => (if k = 1 then [f] else []) ++ leafsL l
def leafsL : List Tree → List Int
  | [] => []
  | t :: l => leafs t ++ leafsL l
end
theorem leafs_eq (k f : Int) (l : List Tree) : leafs (.node k f l) = (if k = 1 then [f] else []) ++ leafsL l := by rw [leafs]
theorem leafsL_append (l m : List Tree) : leafsL (l ++ m) = leafsL l ++ leafsL m := by
  induction l with
  | nil => rw [leafsL]; rfl
  | cons t l ih => rw [List.cons_append, leafsL, leafsL, ih, List.append_assoc]
def leafsTo (l : List Tree) (m : Nat) : List Int := leafsL (l.take m)
theorem leafsTo_zero (l : List Tree) : leafsTo l 0 = [] := by rw [leafsTo, List.take_zero, leafsL]
theorem leafsTo_succ {l : List Tree} {m : Nat} (h : m < l.length) : leafsTo l (m + 1) = leafsTo l m ++ leafs (gT l m) := by
  rw [leafsTo, take_snoc h, leafsL_append, leafsL, leafsL, List.append_nil]; rfl
theorem leafsTo_all {l : List Tree} {m : Nat} (h : l.length ≤ m) : leafsTo l m = leafsL l := by rw [leafsTo, List.take_of_length_le h]
theorem leafsTo_part {l : List Tree} {m : Nat} : ∃ r, leafsL l = leafsTo l m ++ r := ⟨leafsL (l.drop m), by rw [leafsTo, ← leafsL_append, List.take_append_drop]⟩
/-- the world has turned at block g alone, and has grown -/
def Gr (g : Nat) (w w' : World) : Prop := Below g w w' ∧ ∀ k, g < k → k < w.heap.size → w'.heap[k]? = w.heap[k]?
theorem Gr.refl (g : Nat) (w : World) : Gr g w w := ⟨Below.refl _ _, fun _ _ _ => rfl⟩
theorem Gr.trans {g : Nat} {a b c : World} (h : Gr g a b) (k : Gr g b c) : Gr g a c := ⟨h.1.trans k.1, fun i hi hl => (k.2 i hi (Nat.lt_of_lt_of_le hl h.1.size)).trans (h.2 i hi hl)⟩
theorem Gr.alloc {g : Nat} {a w : World} (h : Gr g a w) (hg : g < a.heap.size) (o : Obj) : Gr g a (w.alloc o) :=
  ⟨h.1.alloc (Nat.le_trans (Nat.le_of_lt hg) h.1.size) _, fun k hk hl => (Below.heap_alloc _ _ _ (Nat.lt_of_lt_of_le hl h.1.size)).trans (h.2 k hk hl)⟩
theorem Gr.set {g : Nat} {a w : World} (h : Gr g a w) (o : Nat) (u : Value) : Gr g a (w.setCell ⟨g, o, none⟩ u) :=
  ⟨h.1.setCell (Nat.le_refl _) u, fun k hk hl => (Below.heap_setCell _ _ _ _ (show k ≠ g by omega)).trans (h.2 k hk hl)⟩
theorem Gr.drew {g : Nat} {a w : World} (h : Gr g a w) : Gr g a w.drew := ⟨h.1.drew, h.2⟩
theorem Gr.block {g : Nat} {w w' : World} (h : Gr g w w') {k : Nat} (hk : k < w.heap.size) (hg : k ≠ g) : w'.heap[k]? = w.heap[k]? := by
  rcases Nat.lt_or_ge k g with h' | h'
  · exact h.1.block k h'
  · exact h.2 k (by omega) hk
theorem Gr.cell {g : Nat} {w w' : World} (h : Gr g w w') {b o : Nat} (hk : b < w.heap.size) (hg : b ≠ g) : w'.cell? ⟨b, o, none⟩ = w.cell? ⟨b, o, none⟩ := World.cell?_of_block (w := w) (h.block hk hg)
def Lf (g n : Nat) (C : Nat → Int) (L : List Int) (w : World) (e : Ending) (w' : World) : Prop :=
  e = .returned (.bool true) ∧ Gr g w w' ∧ w'.rowIs g 3 n (fun j => .int .i64 (C j + (L.count (j : Int) : Nat)))
/-- what is asked of the counts so far -/
def Cok (n : Nat) (C : Nat → Int) (L : List Int) : Prop := (∀ j, 0 ≤ C j ∧ C j + L.length ≤ 1099511627776) ∧ ∀ x ∈ L, 0 ≤ x ∧ x < n
theorem Cok.part {n : Nat} {C : Nat → Int} {p q r : List Int} (h : Cok n C (p ++ (q ++ r))) : Cok n (fun j => C j + (p.count (j : Int) : Nat)) q := by
  refine ⟨fun j => ?_, fun x hx => h.2 x (by simp [hx])⟩
  show 0 ≤ C j + (p.count (j : Int) : Nat) ∧ C j + (p.count (j : Int) : Nat) + q.length ≤ 1099511627776
  have h1 := h.1 j
  have h2 : p.count (j : Int) ≤ p.length := List.count_le_length
  simp only [List.length_append, Int.natCast_add] at h1
  omega
/-- the steps of a step, each of which can be counted -/
def Ask3 (g n : Nat) (w : World) (A : Option Addr) (l : List Tree) : Prop := 0 < l.length → ∃ b off, A = some ⟨b, off, none⟩ ∧ b < w.heap.size ∧ b ≠ g ∧ ∀ i, i < l.length → ∃ B c,
  w.cell? ⟨b, off + i * 3, none⟩ = some (.int .i64 (gT l i).kind) ∧ w.cell? ⟨b, off + i * 3 + 1, none⟩ = some (.int .i64 (gT l i).fetch) ∧ w.cell? ⟨b, off + i * 3 + 2, none⟩ = some (.slice B (gT l i).list.length c) ∧
    ∀ wr C, Gr g w wr → wr.rowIs g 3 n (fun j => .int .i64 (C j)) → Cok n C (leafs (gT l i)) → Calls Try.prog 16 #[tree B c (gT l i), .slice (some ⟨g, 0, none⟩) n n] wr (Lf g n C (leafs (gT l i)) wr)
theorem ask3_of {g n h : Nat} (ih : ∀ (t : Tree) (A : Option Addr) (c : Nat) (w : World) (C : Nat → Int), Ns w (fun k => k < w.heap.size ∧ k ≠ g) h A t.list → g < w.heap.size → t.list.length ≤ 9223372036854775807 → w.rowIs g 3 n (fun j => .int .i64 (C j)) → Cok n C (leafs t) →
      Calls Try.prog 16 #[tree A c t, .slice (some ⟨g, 0, none⟩) n n] w (Lf g n C (leafs t) w))
    {w : World} {A : Option Addr} {l : List Tree} (hg : g < w.heap.size) (hr : Ns w (fun k => k < w.heap.size ∧ k ≠ g) (h + 1) A l) : Ask3 g n w A l := fun hn => by
  obtain ⟨b, off, hA, hb, hc⟩ := hr hn
  refine ⟨b, off, hA, hb.1, hb.2, fun i hi => ?_⟩
  obtain ⟨B, c, h1, h2, h3, h4, h5⟩ := hc i hi
  refine ⟨B, c, h1, h2, h3, fun wr C hbw hrow hok => ih _ B c wr C ?_ (Nat.lt_of_lt_of_le hg hbw.1.size) h4 hrow hok⟩
  exact (h5.same (fun k hk => hbw.block hk.1 hk.2)).mono fun k hk => ⟨Nat.lt_of_lt_of_le hk.1 hbw.1.size, hk.2⟩
attribute [local irreducible] leafs leafsL leafsTo
set_option maxRecDepth 100000 in
set_option maxHeartbeats 2000000 in
theorem leaves16_step (g n : Nat) (t : Tree) (A : Option Addr) (c : Nat) (w : World) (C : Nat → Int) (hr : Ask3 g n w A t.list) (hg : g < w.heap.size) (hn : t.list.length ≤ 9223372036854775807) (hnn : n ≤ 200) (hrow : w.rowIs g 3 n (fun j => .int .i64 (C j))) (hok : Cok n C (leafs t)) :
    Calls Try.prog 16 #[tree A c t, .slice (some ⟨g, 0, none⟩) n n] w (Lf g n C (leafs t) w) := by
  have HR := Lib.hid hr; clear hr
  obtain ⟨k, f, l⟩ := t
  have hle := leafs_eq k f l
  obtain ⟨own, hown⟩ : ∃ own, own = if k = 1 then [f] else [] := ⟨_, rfl⟩
  rw [← hown] at hle
  have HL := Lib.hid hle
  rw [hle] at hok
  clear hle
  have HOK := Lib.hid hok
  unfold tree
  simp only [Tree.kind, Tree.fetch, Tree.list] at *
  obtain ⟨q, hq⟩ : ∃ q, q = l.length := ⟨_, rfl⟩
  rw [← hq] at hn ⊢
  have Hq := Lib.hid hq; clear hq
  have HROW := Lib.hid hrow
  by_cases k1 : k = 1
  · subst k1
    rw [if_pos rfl] at hown
    have HOWN := Lib.hid hown
    have hf := hok.2 f (by rw [hown]; simp)
    have hC := hok.1 f.toNat
    have hlen : 1 ≤ (own ++ leafsL l).length := by rw [hown]; simp
    have hC1 : 0 ≤ C f.toNat := hC.1
    have hC2 : C f.toNat ≤ 1099511627776 := by omega
    have hf0 : 0 ≤ f := hf.1
    have hfn : f < (n : Int) := hf.2
    have hfn2 : f.toNat < n := by omega
    have cf : w.cell? ⟨g, f.toNat, none⟩ = some (.int .i64 (C f.toNat)) := hrow.cell hfn2
    have ff := hrow.frozen f.toNat
    clear hok hown hrow hf hC hlen
    go_enter Try.func16, Try.ntmps16
    go_wp2
    go_loopg [5] q (fun j i wr => ∃ m : Nat, m + j = q ∧ i = .int .i64 m ∧ Gr g w wr ∧ wr.heap[w.heap.size]? = some (.cells #[.int .i64 1, .int .i64 f, .slice A q c] 34 (0, 0)) ∧ wr.rowIs g 3 n (fun j => .int .i64 (C j + ((own ++ leafsTo l m).count (j : Int) : Nat))))
    case atStart =>
      refine ⟨0, by omega, rfl, ((Gr.refl g w).set _ _).alloc hg _, heap_at (by simp [World.setCell]), ((HROW.out.set _ _).alloc _).congr fun j _ => ?_⟩
      rw [leafsTo_zero, List.append_nil, HOWN.out]
      by_cases hj : j = f.toNat
      · subst hj
        have e : ((f.toNat : Nat) : Int) = f := Int.toNat_of_nonneg hf0
        simp [e]
      · have e : ¬ f = (j : Int) := by omega
        simp [hj, e]
    case round =>
      obtain ⟨x, hmj, rfl, hb, hbx, hrow⟩ := hrel
      have Hmj := Lib.hid hmj; have hmn : x ≤ q := by omega
      clear hmj
      have HB := Lib.hid hb; have HBX := Lib.hid hbx; have HR2 := Lib.hid hrow
      have c2 : wr.cell? ⟨w.heap.size, 2, none⟩ = some (.slice A q c) := cell_heap hbx rfl
      have hlt0 := heap_lt hbx
      clear hb hbx hrow
      by_cases hlt : x < q
      · have hxl : x < l.length := by rw [← Hq.out]; exact hlt
        obtain ⟨b, off, rfl, hI, hbg, hc⟩ := HR.out (by omega)
        obtain ⟨B, c3, h1, h2, h3, h5⟩ := hc x hxl
        have e1 := (HB.out.cell (o := off + x * 3) hI hbg).trans h1
        have e2 := (HB.out.cell (o := off + x * 3 + 1) hI hbg).trans h2
        have e3 := (HB.out.cell (o := off + x * 3 + 2) hI hbg).trans h3
        have H5 := Lib.hid h5; have Hxl := Lib.hid hxl
        clear hc h1 h2 h3 h5 hxl
        have HCK : Hid (Cok n (fun j => C j + ((own ++ leafsTo l x).count (j : Int) : Nat)) (leafs (gT l x))) := by
          obtain ⟨r, hr⟩ := leafsTo_part (l := l) (m := x + 1)
          refine Cok.part (r := r) ?_
          have := HOK.out
          rw [hr, leafsTo_succ Hxl.out] at this
          simpa only [List.append_assoc] using this
        go_wp2_with fail
        refine (H5.out _ _ HB.out HR2.out HCK.out).mono ?_
        rintro e w2 ⟨rfl, hg2, hrow2⟩
        have HB3 := Lib.hid (HB.out.trans hg2)
        have HX3 := Lib.hid ((hg2.block hlt0 (by omega)).trans HBX.out)
        have HR3 := Lib.hid hrow2
        clear hg2 hrow2 e1 e2 e3 c2
        go_wp2
        go_roundg (gk - 1)
        case measure => have := Hmj.out; omega
        case rel =>
          refine ⟨x + 1, by have := Hmj.out; omega, by go_num, HB3.out, HX3.out, HR3.out.congr fun j _ => ?_⟩
          rw [leafsTo_succ Hxl.out, ← List.append_assoc, List.count_append (l₁ := own ++ leafsTo l x)]
          congr 1; omega
      · have hx : x = q := by omega
        go_wp2
        go_ret
        refine ⟨rfl, HB.out, ?_⟩
        rw [HL.out, ← leafsTo_all (l := l) (m := x) (by rw [hx, Hq.out]; exact Nat.le_refl _)]
        exact HR2.out
  · have q1 : (k == 1) = false := by simp [k1]
    rw [if_neg k1] at hown
    have HOWN := Lib.hid hown
    clear hok hrow hown
    go_enter Try.func16, Try.ntmps16
    go_wp2
    go_loopg [5] q (fun j i wr => ∃ m : Nat, m + j = q ∧ i = .int .i64 m ∧ Gr g w wr ∧ wr.heap[w.heap.size]? = some (.cells #[.int .i64 k, .int .i64 f, .slice A q c] 34 (0, 0)) ∧ wr.rowIs g 3 n (fun j => .int .i64 (C j + ((own ++ leafsTo l m).count (j : Int) : Nat))))
    case atStart =>
      refine ⟨0, by omega, rfl, (Gr.refl g w).alloc hg _, heap_at rfl, (HROW.out.alloc _).congr fun j _ => ?_⟩
      rw [leafsTo_zero, List.append_nil, HOWN.out]
      simp
    case round =>
      obtain ⟨x, hmj, rfl, hb, hbx, hrow⟩ := hrel
      have Hmj := Lib.hid hmj; have hmn : x ≤ q := by omega
      clear hmj
      have HB := Lib.hid hb; have HBX := Lib.hid hbx; have HR2 := Lib.hid hrow
      have c2 : wr.cell? ⟨w.heap.size, 2, none⟩ = some (.slice A q c) := cell_heap hbx rfl
      have hlt0 := heap_lt hbx
      clear hb hbx hrow
      by_cases hlt : x < q
      · have hxl : x < l.length := by rw [← Hq.out]; exact hlt
        obtain ⟨b, off, rfl, hI, hbg, hc⟩ := HR.out (by omega)
        obtain ⟨B, c3, h1, h2, h3, h5⟩ := hc x hxl
        have e1 := (HB.out.cell (o := off + x * 3) hI hbg).trans h1
        have e2 := (HB.out.cell (o := off + x * 3 + 1) hI hbg).trans h2
        have e3 := (HB.out.cell (o := off + x * 3 + 2) hI hbg).trans h3
        have H5 := Lib.hid h5; have Hxl := Lib.hid hxl
        clear hc h1 h2 h3 h5 hxl
        have HCK : Hid (Cok n (fun j => C j + ((own ++ leafsTo l x).count (j : Int) : Nat)) (leafs (gT l x))) := by
          obtain ⟨r, hr⟩ := leafsTo_part (l := l) (m := x + 1)
          refine Cok.part (r := r) ?_
          have := HOK.out
          rw [hr, leafsTo_succ Hxl.out] at this
          simpa only [List.append_assoc] using this
        go_wp2_with fail
        refine (H5.out _ _ HB.out HR2.out HCK.out).mono ?_
        rintro e w2 ⟨rfl, hg2, hrow2⟩
        have HB3 := Lib.hid (HB.out.trans hg2)
        have HX3 := Lib.hid ((hg2.block hlt0 (by omega)).trans HBX.out)
        have HR3 := Lib.hid hrow2
        clear hg2 hrow2 e1 e2 e3 c2
        go_wp2
        go_roundg (gk - 1)
        case measure => have := Hmj.out; omega
        case rel =>
          refine ⟨x + 1, by have := Hmj.out; omega, by go_num, HB3.out, HX3.out, HR3.out.congr fun j _ => ?_⟩
          rw [leafsTo_succ Hxl.out, ← List.append_assoc, List.count_append (l₁ := own ++ leafsTo l x)]
          congr 1; omega
      · have hx : x = q := by omega
        go_wp2
        go_ret
        refine ⟨rfl, HB.out, ?_⟩
        rw [HL.out, ← leafsTo_all (l := l) (m := x) (by rw [hx, Hq.out]; exact Nat.le_refl _)]
        exact HR2.out
theorem leaves16 (g n : Nat) (hnn : n ≤ 200) : ∀ (h : Nat) (t : Tree) (A : Option Addr) (c : Nat) (w : World) (C : Nat → Int), Ns w (fun k => k < w.heap.size ∧ k ≠ g) h A t.list → g < w.heap.size → t.list.length ≤ 9223372036854775807 → w.rowIs g 3 n (fun j => .int .i64 (C j)) → Cok n C (leafs t) →
      Calls Try.prog 16 #[tree A c t, .slice (some ⟨g, 0, none⟩) n n] w (Lf g n C (leafs t) w)
  | 0, t, A, c, w, C, hr, hg, hn, hrow, hok => leaves16_step g n t A c w C (fun h => by rw [show t.list = [] from hr] at h; simp at h) hg hn hnn hrow hok
  | h + 1, t, A, c, w, C, hr, hg, hn, hrow, hok => leaves16_step g n t A c w C (ask3_of (leaves16 g n hnn h) hg hr) hg hn hnn hrow hok
end Go.Proofs.Ytkldeelhlbhlmaa
