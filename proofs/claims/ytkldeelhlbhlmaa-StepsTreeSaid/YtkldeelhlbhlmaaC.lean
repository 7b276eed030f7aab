/- The longest sequence of a step, in both texts. -/
import Derived.Test.YtkldeelhlbhlmaaB
namespace Go.Proofs.Ytkldeelhlbhlmaa
open Go.RowKit
attribute [local irreducible] wpList Calls Code.wp
/-- a step: its kind, its fetch, its steps -/
inductive Tree where
  | node (k f : Int) (l : List Tree) : Tree
def Tree.kind : Tree → Int | .node k _ _ => k
def Tree.fetch : Tree → Int | .node _ f _ => f
def Tree.list : Tree → List Tree | .node _ _ l => l
instance : Inhabited Tree := ⟨.node 0 0 []⟩
def gT (l : List Tree) (i : Nat) : Tree := l.getD i default
mutual
/-- the length of the longest sequence -/
def depthI : Tree → Int
  | .node k _ l => if k = 1 then 1 else if k = 2 then sumF 0 l else if k = 3 then maxF 0 l else 0
def sumF (a : Int) : List Tree → Int
  | [] => a
  | t :: l => sumF (wrap64 (a + depthI t)) l
def maxF (a : Int) : List Tree → Int
  | [] => a
  | t :: l => maxF (max a (depthI t)) l
end
theorem depthI_eq (k f : Int) (l : List Tree) : depthI (.node k f l) = if k = 1 then 1 else if k = 2 then sumF 0 l else if k = 3 then maxF 0 l else 0 := by
  rw [depthI]
theorem sumF_snoc (l : List Tree) (t : Tree) : ∀ a, sumF a (l ++ [t]) = wrap64 (sumF a l + depthI t) := by
  induction l with
  | nil => intro a; rw [List.nil_append, sumF, sumF, sumF]
  | cons x l ih => intro a; rw [List.cons_append, sumF, ih, sumF]
theorem maxF_snoc (l : List Tree) (t : Tree) : ∀ a, maxF a (l ++ [t]) = max (maxF a l) (depthI t) := by
  induction l with
  | nil => intro a; rw [List.nil_append, maxF, maxF, maxF]
  | cons x l ih => intro a; rw [List.cons_append, maxF, ih, maxF]
theorem gT_at {l : List Tree} {m : Nat} (h : m < l.length) : gT l m = l[m] := by simp [gT, List.getElem?_eq_getElem h]
theorem take_snoc {l : List Tree} {m : Nat} (h : m < l.length) : l.take (m + 1) = l.take m ++ [gT l m] := by
  rw [gT_at h, List.take_add_one, List.getElem?_eq_getElem h]; rfl
def sumTo (l : List Tree) (m : Nat) : Int := sumF 0 (l.take m)
def maxTo (l : List Tree) (m : Nat) : Int := maxF 0 (l.take m)
theorem sumTo_zero (l : List Tree) : sumTo l 0 = 0 := by rw [sumTo, List.take_zero, sumF]
theorem maxTo_zero (l : List Tree) : maxTo l 0 = 0 := by rw [maxTo, List.take_zero, maxF]
theorem sumTo_succ {l : List Tree} {m : Nat} (h : m < l.length) : sumTo l (m + 1) = wrap64 (sumTo l m + depthI (gT l m)) := by rw [sumTo, take_snoc h, sumF_snoc]; rfl
theorem maxTo_succ {l : List Tree} {m : Nat} (h : m < l.length) : maxTo l (m + 1) = max (maxTo l m) (depthI (gT l m)) := by rw [maxTo, take_snoc h, maxF_snoc]; rfl
theorem sumTo_all {l : List Tree} {m : Nat} (h : l.length ≤ m) : sumTo l m = sumF 0 l := by rw [sumTo, List.take_of_length_le h]
theorem maxTo_all {l : List Tree} {m : Nat} (h : l.length ≤ m) : maxTo l m = maxF 0 l := by rw [maxTo, List.take_of_length_le h]
/-- a slice of steps that is read, of the tree's height at most h -/
def Ns (w : World) (I : Nat → Prop) : Nat → Option Addr → List Tree → Prop
  | 0, _, l => l = []
  | h + 1, A, l => 0 < l.length → ∃ b off, A = some ⟨b, off, none⟩ ∧ I b ∧ ∀ i, i < l.length → ∃ B c,
      w.cell? ⟨b, off + i * 3, none⟩ = some (.int .i64 (gT l i).kind) ∧ w.cell? ⟨b, off + i * 3 + 1, none⟩ = some (.int .i64 (gT l i).fetch) ∧ w.cell? ⟨b, off + i * 3 + 2, none⟩ = some (.slice B (gT l i).list.length c) ∧ (gT l i).list.length ≤ 9223372036854775807 ∧ Ns w I h B (gT l i).list
theorem Ns.same {w w' : World} {I : Nat → Prop} (hs : Same I w w') : ∀ {h : Nat} {A : Option Addr} {l : List Tree}, Ns w I h A l → Ns w' I h A l
  | 0, _, _, h => h
  | n + 1, A, l, h => fun hn => by
    obtain ⟨b, off, hA, hb, hc⟩ := h hn
    refine ⟨b, off, hA, hb, fun i hi => ?_⟩
    obtain ⟨B, c, h1, h2, h3, h4, h5⟩ := hc i hi
    exact ⟨B, c, (hs.cell hb).trans h1, (hs.cell hb).trans h2, (hs.cell hb).trans h3, h4, Ns.same hs h5⟩
theorem Ns.mono {w : World} {I J : Nat → Prop} (hI : ∀ k, I k → J k) : ∀ {h : Nat} {A : Option Addr} {l : List Tree}, Ns w I h A l → Ns w J h A l
  | 0, _, _, h => h
  | n + 1, A, l, h => fun hn => by
    obtain ⟨b, off, hA, hb, hc⟩ := h hn
    refine ⟨b, off, hA, hI _ hb, fun i hi => ?_⟩
    obtain ⟨B, c, h1, h2, h3, h4, h5⟩ := hc i hi
    exact ⟨B, c, h1, h2, h3, h4, Ns.mono hI h5⟩
def tree (A : Option Addr) (c : Nat) (t : Tree) : Value := .agg #[.int .i64 t.kind, .int .i64 t.fetch, .slice A t.list.length c]
/-- an int comes back, and nothing that was there has turned -/
def Nu (n : Int) (w : World) (e : Ending) (w' : World) : Prop := e = .returned (.int .i64 n) ∧ Below w.heap.size w w'
attribute [local irreducible] depthI sumTo maxTo
/-- the steps of a step, each of which can be asked for its depth by the function f -/
def Ask (f : FuncId) (w : World) (A : Option Addr) (l : List Tree) : Prop := 0 < l.length → ∃ b off, A = some ⟨b, off, none⟩ ∧ b < w.heap.size ∧ ∀ i, i < l.length → ∃ B c,
  w.cell? ⟨b, off + i * 3, none⟩ = some (.int .i64 (gT l i).kind) ∧ w.cell? ⟨b, off + i * 3 + 1, none⟩ = some (.int .i64 (gT l i).fetch) ∧ w.cell? ⟨b, off + i * 3 + 2, none⟩ = some (.slice B (gT l i).list.length c) ∧
    ∀ wr, Below w.heap.size w wr → Calls Try.prog f #[tree B c (gT l i)] wr (Nu (depthI (gT l i)) wr)
theorem ask_of {f : FuncId} {h : Nat} (ih : ∀ (t : Tree) (A : Option Addr) (c : Nat) (w : World), Ns w (fun k => k < w.heap.size) h A t.list → t.list.length ≤ 9223372036854775807 → Calls Try.prog f #[tree A c t] w (Nu (depthI t) w))
    {w : World} {A : Option Addr} {l : List Tree} (hr : Ns w (fun k => k < w.heap.size) (h + 1) A l) : Ask f w A l := fun hn => by
  obtain ⟨b, off, hA, hb, hc⟩ := hr hn
  refine ⟨b, off, hA, hb, fun i hi => ?_⟩
  obtain ⟨B, c, h1, h2, h3, h4, h5⟩ := hc i hi
  refine ⟨B, c, h1, h2, h3, fun wr hbw => ih _ B c wr ?_ h4⟩
  exact (h5.same (Same.below hbw fun _ h => h)).mono fun _ h => Nat.lt_of_lt_of_le h hbw.size
set_option maxRecDepth 100000 in
set_option maxHeartbeats 1000000 in
theorem depth17_step (t : Tree) (A : Option Addr) (c : Nat) (w : World) (hr : Ask 17 w A t.list) (hn : t.list.length ≤ 9223372036854775807) :
    Calls Try.prog 17 #[tree A c t] w (Nu (depthI t) w) := by
  have HR := Lib.hid hr; clear hr
  obtain ⟨k, f, l⟩ := t
  have hd := depthI_eq k f l
  have HD := Lib.hid hd; clear hd
  unfold tree
  simp only [Tree.kind, Tree.fetch, Tree.list] at *
  have hn0 : ∃ n, n = l.length := ⟨_, rfl⟩
  obtain ⟨n, hn1⟩ := hn0
  rw [← hn1] at hn ⊢
  have Hn1 := Lib.hid hn1; clear hn1
  by_cases k1 : k = 1
  · subst k1
    go_enter Try.func17, Try.ntmps17
    go_wp2
    go_ret
    exact ⟨by rw [HD.out]; rfl, (Below.refl _ _).alloc (Nat.le_refl _) _⟩
  by_cases k2 : k = 2
  · subst k2
    go_enter Try.func17, Try.ntmps17
    go_wp2
    go_loopg [3, 17] n (fun j o i wr => ∃ m : Nat, m + j = n ∧ i = .int .i64 m ∧ o = .int .i64 (sumTo l m) ∧ Below w.heap.size w wr)
    case atStart => exact ⟨0, by omega, rfl, by rw [sumTo_zero], (Below.refl _ _).alloc (Nat.le_refl _) _⟩
    case round =>
      obtain ⟨x, hmj, rfl, rfl, hb⟩ := hrel
      have Hmj := Lib.hid hmj; have hmn : x ≤ n := by omega
      clear hmj
      by_cases hlt : x < n
      · have hxl : x < l.length := by rw [← Hn1.out]; exact hlt
        obtain ⟨b, off, rfl, hI, hc⟩ := HR.out (by omega)
        obtain ⟨B, c2, h1, h2, h3, h5⟩ := hc x hxl
        have e1 : wr.cell? ⟨b, off + x * 3, none⟩ = some (.int .i64 (gT l x).kind) := (hb.cell (p := ⟨b, off + x * 3, none⟩) hI).trans h1
        have e2 : wr.cell? ⟨b, off + x * 3 + 1, none⟩ = some (.int .i64 (gT l x).fetch) := (hb.cell (p := ⟨b, off + x * 3 + 1, none⟩) hI).trans h2
        have e3 : wr.cell? ⟨b, off + x * 3 + 2, none⟩ = some (.slice B (gT l x).list.length c2) := (hb.cell (p := ⟨b, off + x * 3 + 2, none⟩) hI).trans h3
        have H5 := Lib.hid h5; have Hxl := Lib.hid hxl
        clear hc h1 h2 h3 h5 hxl
        go_wp2_with fail
        refine (H5.out _ (hb.alloc hb.size _)).mono ?_
        rintro e w2 ⟨rfl, hb2⟩
        have hb3 : Below w.heap.size w w2 := (hb.alloc hb.size _).trans (hb2.mono (by simp; have := hb.size; omega))
        clear hb2
        go_wp2
        go_roundg (gk - 1)
        case measure => have := Hmj.out; omega
        case rel =>
          refine ⟨x + 1, by have := Hmj.out; omega, by go_num, ?_, hb3⟩
          rw [sumTo_succ Hxl.out]
      · have hx : x = n := by omega
        go_wp2
        go_ret
        exact ⟨by rw [HD.out, ← sumTo_all (l := l) (m := x) (by rw [hx, Hn1.out]; exact Nat.le_refl _)]; rfl, hb⟩
  by_cases k3 : k = 3
  · subst k3
    go_enter Try.func17, Try.ntmps17
    go_wp2
    go_loopg [3, 31] n (fun j o i wr => ∃ m : Nat, m + j = n ∧ i = .int .i64 m ∧ o = .int .i64 (maxTo l m) ∧ Below w.heap.size w wr)
    case atStart => exact ⟨0, by omega, rfl, by rw [maxTo_zero], (Below.refl _ _).alloc (Nat.le_refl _) _⟩
    case round =>
      obtain ⟨x, hmj, rfl, rfl, hb⟩ := hrel
      have Hmj := Lib.hid hmj; have hmn : x ≤ n := by omega
      clear hmj
      by_cases hlt : x < n
      · have hxl : x < l.length := by rw [← Hn1.out]; exact hlt
        obtain ⟨b, off, rfl, hI, hc⟩ := HR.out (by omega)
        obtain ⟨B, c2, h1, h2, h3, h5⟩ := hc x hxl
        have e1 : wr.cell? ⟨b, off + x * 3, none⟩ = some (.int .i64 (gT l x).kind) := (hb.cell (p := ⟨b, off + x * 3, none⟩) hI).trans h1
        have e2 : wr.cell? ⟨b, off + x * 3 + 1, none⟩ = some (.int .i64 (gT l x).fetch) := (hb.cell (p := ⟨b, off + x * 3 + 1, none⟩) hI).trans h2
        have e3 : wr.cell? ⟨b, off + x * 3 + 2, none⟩ = some (.slice B (gT l x).list.length c2) := (hb.cell (p := ⟨b, off + x * 3 + 2, none⟩) hI).trans h3
        have H5 := Lib.hid h5; have Hxl := Lib.hid hxl
        clear hc h1 h2 h3 h5 hxl
        go_wp2_with fail
        refine (H5.out _ (hb.alloc hb.size _)).mono ?_
        rintro e w2 ⟨rfl, hb2⟩
        have hb3 : Below w.heap.size w w2 := (hb.alloc hb.size _).trans (hb2.mono (by simp; have := hb.size; omega))
        clear hb2
        go_wp2
        all_goals
          go_roundg (gk - 1)
          case measure => have := Hmj.out; omega
          case rel =>
            refine ⟨x + 1, by have := Hmj.out; omega, by go_num, ?_, hb3⟩
            rw [maxTo_succ Hxl.out]; congr 1; omega
      · have hx : x = n := by omega
        go_wp2
        go_ret
        exact ⟨by rw [HD.out, ← maxTo_all (l := l) (m := x) (by rw [hx, Hn1.out]; exact Nat.le_refl _)]; rfl, hb⟩
  · have q1 : (k == 1) = false := by simp [k1]
    have q2 : (k == 2) = false := by simp [k2]
    have q3 : (k == 3) = false := by simp [k3]
    go_enter Try.func17, Try.ntmps17
    go_wp2
    go_ret
    exact ⟨by rw [HD.out, if_neg k1, if_neg k2, if_neg k3]; rfl, (Below.refl _ _).alloc (Nat.le_refl _) _⟩
theorem depth17 : ∀ (h : Nat) (t : Tree) (A : Option Addr) (c : Nat) (w : World), Ns w (fun k => k < w.heap.size) h A t.list → t.list.length ≤ 9223372036854775807 → Calls Try.prog 17 #[tree A c t] w (Nu (depthI t) w)
  | 0, t, A, c, w, hr, hn => depth17_step t A c w (fun h => by rw [show t.list = [] from hr] at h; simp at h) hn
  | h + 1, t, A, c, w, hr, hn => depth17_step t A c w (ask_of (depth17 h) hr) hn
set_option maxRecDepth 100000 in
set_option maxHeartbeats 1000000 in
theorem depth19_step (t : Tree) (A : Option Addr) (c : Nat) (w : World) (hr : Ask 19 w A t.list) (hn : t.list.length ≤ 9223372036854775807) :
    Calls Try.prog 19 #[tree A c t] w (Nu (depthI t) w) := by
  have HR := Lib.hid hr; clear hr
  obtain ⟨k, f, l⟩ := t
  have hd := depthI_eq k f l
  have HD := Lib.hid hd; clear hd
  unfold tree
  simp only [Tree.kind, Tree.fetch, Tree.list] at *
  have hn0 : ∃ n, n = l.length := ⟨_, rfl⟩
  obtain ⟨n, hn1⟩ := hn0
  rw [← hn1] at hn ⊢
  have Hn1 := Lib.hid hn1; clear hn1
  by_cases k1 : k = 1
  · subst k1
    go_enter Try.func19, Try.ntmps19
    go_wp2
    go_ret
    exact ⟨by rw [HD.out]; rfl, (Below.refl _ _).alloc (Nat.le_refl _) _⟩
  by_cases k2 : k = 2
  · subst k2
    go_enter Try.func19, Try.ntmps19
    go_wp2
    go_loopg [3, 4] n (fun j o i wr => ∃ m : Nat, m + j = n ∧ i = .int .i64 m ∧ o = .int .i64 (sumTo l m) ∧ Below w.heap.size w wr ∧ wr.heap[w.heap.size]? = some (.cells #[.int .i64 2, .int .i64 f, .slice A n c] 39 (0, 0)))
    case atStart => exact ⟨0, by omega, rfl, by rw [sumTo_zero], (Below.refl _ _).alloc (Nat.le_refl _) _, heap_at rfl⟩
    case round =>
      obtain ⟨x, hmj, rfl, rfl, hb, hbx⟩ := hrel
      have Hmj := Lib.hid hmj; have hmn : x ≤ n := by omega
      clear hmj
      by_cases hlt : x < n
      · have hxl : x < l.length := by rw [← Hn1.out]; exact hlt
        obtain ⟨b, off, rfl, hI, hc⟩ := HR.out (by omega)
        obtain ⟨B, c2, h1, h2, h3, h5⟩ := hc x hxl
        have e1 : wr.cell? ⟨b, off + x * 3, none⟩ = some (.int .i64 (gT l x).kind) := (hb.cell (p := ⟨b, off + x * 3, none⟩) hI).trans h1
        have e2 : wr.cell? ⟨b, off + x * 3 + 1, none⟩ = some (.int .i64 (gT l x).fetch) := (hb.cell (p := ⟨b, off + x * 3 + 1, none⟩) hI).trans h2
        have e3 : wr.cell? ⟨b, off + x * 3 + 2, none⟩ = some (.slice B (gT l x).list.length c2) := (hb.cell (p := ⟨b, off + x * 3 + 2, none⟩) hI).trans h3
        have c0 : wr.cell? ⟨w.heap.size, 0, none⟩ = some (.int .i64 2) := cell_of_row _ _ _ _ _ _ hbx
        have c2 : wr.cell? ⟨w.heap.size, 2, none⟩ = some (.slice (some ⟨b, off, none⟩) n c) := cell_of_row _ _ _ _ _ _ hbx
        have H5 := Lib.hid h5; have Hxl := Lib.hid hxl
        have Hbx := Lib.hid hbx
        clear hc h1 h2 h3 h5 hxl hbx
        go_wp2_with fail
        refine (H5.out _ hb).mono ?_
        rintro e w2 ⟨rfl, hb2⟩
        have hb3 : Below w.heap.size w w2 := hb.trans (hb2.mono hb.size)
        have hbx2 : w2.heap[w.heap.size]? = some (.cells #[.int .i64 2, .int .i64 f, .slice (some ⟨b, off, none⟩) n c] 39 (0, 0)) := (hb2.block _ (block_lt_of_cell c0)).trans Hbx.out
        have d0 : w2.cell? ⟨w.heap.size, 0, none⟩ = some (.int .i64 2) := cell_of_row _ _ _ _ _ _ hbx2
        have Hbx2 := Lib.hid hbx2
        clear hb2 hbx2
        go_wp2
        all_goals
          go_roundg (gk - 1)
          case measure => have := Hmj.out; omega
          case rel =>
            refine ⟨x + 1, by have := Hmj.out; omega, by go_num, ?_, hb3, Hbx2.out⟩
            rw [sumTo_succ Hxl.out]
      · have hx : x = n := by omega
        have c2 : wr.cell? ⟨w.heap.size, 2, none⟩ = some (.slice A n c) := cell_of_row _ _ _ _ _ _ hbx
        clear hbx
        go_wp2
        go_ret
        exact ⟨by rw [HD.out, ← sumTo_all (l := l) (m := x) (by rw [hx, Hn1.out]; exact Nat.le_refl _)]; rfl, hb⟩
  by_cases k3 : k = 3
  · subst k3
    go_enter Try.func19, Try.ntmps19
    go_wp2
    go_loopg [3, 4] n (fun j o i wr => ∃ m : Nat, m + j = n ∧ i = .int .i64 m ∧ o = .int .i64 (maxTo l m) ∧ Below w.heap.size w wr ∧ wr.heap[w.heap.size]? = some (.cells #[.int .i64 3, .int .i64 f, .slice A n c] 39 (0, 0)))
    case atStart => exact ⟨0, by omega, rfl, by rw [maxTo_zero], (Below.refl _ _).alloc (Nat.le_refl _) _, heap_at rfl⟩
    case round =>
      obtain ⟨x, hmj, rfl, rfl, hb, hbx⟩ := hrel
      have Hmj := Lib.hid hmj; have hmn : x ≤ n := by omega
      clear hmj
      by_cases hlt : x < n
      · have hxl : x < l.length := by rw [← Hn1.out]; exact hlt
        obtain ⟨b, off, rfl, hI, hc⟩ := HR.out (by omega)
        obtain ⟨B, c2, h1, h2, h3, h5⟩ := hc x hxl
        have e1 : wr.cell? ⟨b, off + x * 3, none⟩ = some (.int .i64 (gT l x).kind) := (hb.cell (p := ⟨b, off + x * 3, none⟩) hI).trans h1
        have e2 : wr.cell? ⟨b, off + x * 3 + 1, none⟩ = some (.int .i64 (gT l x).fetch) := (hb.cell (p := ⟨b, off + x * 3 + 1, none⟩) hI).trans h2
        have e3 : wr.cell? ⟨b, off + x * 3 + 2, none⟩ = some (.slice B (gT l x).list.length c2) := (hb.cell (p := ⟨b, off + x * 3 + 2, none⟩) hI).trans h3
        have c0 : wr.cell? ⟨w.heap.size, 0, none⟩ = some (.int .i64 3) := cell_of_row _ _ _ _ _ _ hbx
        have c2 : wr.cell? ⟨w.heap.size, 2, none⟩ = some (.slice (some ⟨b, off, none⟩) n c) := cell_of_row _ _ _ _ _ _ hbx
        have H5 := Lib.hid h5; have Hxl := Lib.hid hxl
        have Hbx := Lib.hid hbx
        clear hc h1 h2 h3 h5 hxl hbx
        go_wp2_with fail
        refine (H5.out _ hb).mono ?_
        rintro e w2 ⟨rfl, hb2⟩
        have hb3 : Below w.heap.size w w2 := hb.trans (hb2.mono hb.size)
        have hbx2 : w2.heap[w.heap.size]? = some (.cells #[.int .i64 3, .int .i64 f, .slice (some ⟨b, off, none⟩) n c] 39 (0, 0)) := (hb2.block _ (block_lt_of_cell c0)).trans Hbx.out
        have d0 : w2.cell? ⟨w.heap.size, 0, none⟩ = some (.int .i64 3) := cell_of_row _ _ _ _ _ _ hbx2
        have Hbx2 := Lib.hid hbx2
        clear hb2 hbx2
        go_wp2
        all_goals
          go_roundg (gk - 1)
          case measure => have := Hmj.out; omega
          case rel =>
            refine ⟨x + 1, by have := Hmj.out; omega, by go_num, ?_, hb3, Hbx2.out⟩
            rw [maxTo_succ Hxl.out]; congr 1; omega
      · have hx : x = n := by omega
        have c2 : wr.cell? ⟨w.heap.size, 2, none⟩ = some (.slice A n c) := cell_of_row _ _ _ _ _ _ hbx
        clear hbx
        go_wp2
        go_ret
        exact ⟨by rw [HD.out, ← maxTo_all (l := l) (m := x) (by rw [hx, Hn1.out]; exact Nat.le_refl _)]; rfl, hb⟩
  · have q1 : (k == 1) = false := by simp [k1]
    have q2 : (k == 2) = false := by simp [k2]
    have q3 : (k == 3) = false := by simp [k3]
    have HQ := Lib.hid (show depthI (.node k f l) = 0 by rw [HD.out, if_neg k1, if_neg k2, if_neg k3])
    clear HD
    go_enter Try.func19, Try.ntmps19
    go_wp2
    go_loopg [3, 4] n (fun j o i wr => ∃ m : Nat, m + j = n ∧ i = .int .i64 m ∧ o = .int .i64 0 ∧ Below w.heap.size w wr ∧ wr.heap[w.heap.size]? = some (.cells #[.int .i64 k, .int .i64 f, .slice A n c] 39 (0, 0)))
    case atStart => exact ⟨0, by omega, rfl, rfl, (Below.refl _ _).alloc (Nat.le_refl _) _, heap_at rfl⟩
    case round =>
      obtain ⟨x, hmj, rfl, rfl, hb, hbx⟩ := hrel
      have Hmj := Lib.hid hmj; have hmn : x ≤ n := by omega
      clear hmj
      have c0 : wr.cell? ⟨w.heap.size, 0, none⟩ = some (.int .i64 k) := cell_of_row _ _ _ _ _ _ hbx
      have c2 : wr.cell? ⟨w.heap.size, 2, none⟩ = some (.slice A n c) := cell_of_row _ _ _ _ _ _ hbx
      have Hbx := Lib.hid hbx; clear hbx
      by_cases hlt : x < n
      · go_wp2
        go_roundg (gk - 1)
        case measure => have := Hmj.out; omega
        case rel => exact ⟨x + 1, by have := Hmj.out; omega, by go_num, rfl, hb, Hbx.out⟩
      · go_wp2
        go_ret
        exact ⟨by rw [HQ.out]; rfl, hb⟩
theorem depth19 : ∀ (h : Nat) (t : Tree) (A : Option Addr) (c : Nat) (w : World), Ns w (fun k => k < w.heap.size) h A t.list → t.list.length ≤ 9223372036854775807 → Calls Try.prog 19 #[tree A c t] w (Nu (depthI t) w)
  | 0, t, A, c, w, hr, hn => depth19_step t A c w (fun h => by rw [show t.list = [] from hr] at h; simp at h) hn
  | h + 1, t, A, c, w, hr, hn => depth19_step t A c w (ask_of (depth19 h) hr) hn
end Go.Proofs.Ytkldeelhlbhlmaa
