/- Parts of a proof, merged by a program (shake.py). -/
import Derived.Test.YtohneabalakmeaaDoorDq37
namespace Go.Proofs.YtohneabalakmeaaDoor
open Go.RowKit
attribute [local irreducible] wpList Calls Code.wp
def dirsWide (K : Nat) (l : List D) : Prop := ∀ i, i < l.length → ∀ j, j < ((gD l i).f 1).l.length → wideF (K + 1) ((gD ((gD l i).f 1).l j).f 1)
def dirsFit (K : Nat) (l : List D) : Prop := ∀ i, i < l.length → Fits Tryd.prog (K + 1) 101 (gD l i)
set_option maxRecDepth 100000 in
theorem dirs_boundq {K : Nat} {l : List D} (hf : dirsFit K l) (hw : dirsWide K l) : (dirsB (K + 1) l).length ≤ 8 * bulkL l := by
  have := join_range l.length l.length (fun i => dirB (K + 1) (gD l i)) [32] (fun i => bulkD (gD l i)) (Nat.le_refl _) (fun i hi => (dirB_bound (hf i hi) (hw i hi)).1)
  rwa [← bulkL_range] at this
set_option maxRecDepth 100000 in
theorem tail_boundq {K : Nat} {l : List D} (hf : dirsFit K l) (hw : dirsWide K l) : (tailB (K + 1) l).length ≤ 8 * bulkL l + 1 := by
  have := dirs_boundq hf hw
  unfold tailB
  split
  · simp
  · simp only [List.length_append, List.length_cons, List.length_nil]; omega
set_option maxRecDepth 100000 in
theorem bulkL_len (l : List D) : l.length ≤ bulkL l := by
  induction l with
  | nil => simp [bulkL]
  | cons d r ih =>
    have : 1 ≤ bulkD d := by cases d <;> simp [bulkD]
    simp only [bulkL, List.length_cons]; omega
def refT (r : D) : List UInt8 := refB (tx (r.f 0).s) (r.f 1).l
def inT (K : Nat) (x : D) : List UInt8 := inputB (tx (x.f 0).s) (refT (x.f 1)) (valF (K + 1) (x.f 3)) (tailB (K + 1) (x.f 4).l) (x.f 2).b
def mapU (l : List D) (f : D → List UInt8) : List (List UInt8) := (List.range l.length).map fun i => f (gD l i)
set_option maxRecDepth 100000 in
theorem mapU_len (l : List D) (f : D → List UInt8) : (mapU l f).length = l.length := by simp [mapU]
set_option maxRecDepth 100000 in
theorem mapU_get {l : List D} {f : D → List UInt8} {i : Nat} (h : i < l.length) : gU (mapU l f) i = f (gD l i) := by
  have h2 : i < (mapU l f).length := by rw [mapU_len]; exact h
  rw [gU_get h2]
  simp [mapU]
set_option maxRecDepth 100000 in
theorem mapU_join {l : List D} {f : D → List UInt8} {sep : List UInt8} (h : ∀ i, i < l.length → (f (gD l i)).length + sep.length ≤ 8 * bulkD (gD l i)) : (Lib.join (mapU l f) sep).length ≤ 8 * bulkL l := by
  have := join_range l.length l.length (fun i => f (gD l i)) sep (fun i => bulkD (gD l i)) (Nat.le_refl _) h
  rwa [← bulkL_range] at this
def fldT (K : Nat) (f : D) : List UInt8 := fieldB (tx (f.f 0).s) (refT (f.f 2)) (tailB (K + 1) (f.f 3).l) (mapU (f.f 1).l (inT K))
def memT (K : Nat) (m : D) : List UInt8 := tx (m.f 0).s ++ tailB (K + 1) (m.f 1).l
def linesT (K : Nat) (x : D) : List (List UInt8) :=
  if (x.f 0).n = 1 ∨ (x.f 0).n = 2 then mapU (x.f 4).l (fldT K)
  else if (x.f 0).n = 4 then mapU (x.f 5).l (memT K)
  else if (x.f 0).n = 5 then mapU (x.f 6).l (inT K)
  else []
def blkT (K : Nat) (x : D) : List UInt8 :=
  blockB (x.f 0).n (tx (x.f 1).s) (tailB (K + 1) (x.f 3).l) (mapU (x.f 2).l fun s => tx s.s) (mapU (x.f 5).l fun m => tx (m.f 0).s) (linesT K x)
def docT (K : Nat) (d : D) : List UInt8 := Lib.join (mapU (d.f 0).l (blkT K)) [10]
structure InOk (K : Nat) (x : D) : Prop where
  fits : Fits Tryd.prog (K + 1) 132 x
  wv : wideF (K + 1) (x.f 3)
  wd : dirsWide K (x.f 4).l
  good : goodIn K x
structure FldOk (K : Nat) (x : D) : Prop where
  fits : Fits Tryd.prog (K + 1) 64 x
  ins : ∀ i, i < (x.f 1).l.length → InOk K (gD (x.f 1).l i)
  wd : dirsWide K (x.f 3).l
  good : goodDirs K (x.f 3).l
structure MemOkT (K : Nat) (x : D) : Prop where
  fits : Fits Tryd.prog (K + 1) 112 x
  wd : dirsWide K (x.f 1).l
  good : goodDirs K (x.f 1).l
structure DefOk (K : Nat) (x : D) : Prop where
  fits : Fits Tryd.prog (K + 1) 58 x
  kind : 1 ≤ (x.f 0).n ∧ (x.f 0).n ≤ 5
  wd : dirsWide K (x.f 3).l
  good : goodDirs K (x.f 3).l
  fields : ∀ i, i < (x.f 4).l.length → FldOk K (gD (x.f 4).l i)
  mems : ∀ i, i < (x.f 5).l.length → MemOkT K (gD (x.f 5).l i)
  ins : ∀ i, i < (x.f 6).l.length → InOk K (gD (x.f 6).l i)
set_option maxRecDepth 100000 in
theorem refT_bound {K : Nat} {r : D} (h : Fits Tryd.prog (K + 1) 62 r) : (refT r).length + 2 ≤ 2 * bulkD r ∧ (tx (r.f 0).s).length + (r.f 1).l.length + 2 ≤ bulkD r := by
  obtain ⟨x0, x1, rfl, h1⟩ := fits62 h
  have h2 := refB_length (tx x0) x1
  have h3 := bulkL_len x1
  have hb : bulkD (D.obj [.str x0, .list x1]) = x0.size + 1 + (bulkL x1 + 1) + 1 := by simp [bulkD, bulkL]
  have h4 : (tx x0).length = x0.size := tx_size x0
  refine ⟨?_, ?_⟩
  · show (refB (tx x0) x1).length + 2 ≤ _
    omega
  · show (tx x0).length + x1.length + 2 ≤ _
    omega
set_option maxRecDepth 100000 in
theorem inB_le {n rt vt dt : List UInt8} {h : Bool} : (inputB n rt vt dt h).length ≤ n.length + rt.length + vt.length + dt.length + 5 := by
  unfold inputB
  cases h <;> simp <;> omega
set_option maxRecDepth 100000 in
theorem fitL {K : Nat} {t : TypeId} {l : List D} {P : Program} (h : ∀ i, i < l.length → Fits P (K - 1) t (gD l i)) : ∀ i, i < l.length → Fits P (K + 1) t (gD l i) := fun i hi => (h i hi).le (by omega)
set_option maxRecDepth 100000 in
theorem InOk.parts {K : Nat} {x : D} (h : InOk K x) : Fits Tryd.prog (K + 1) 62 (x.f 1) ∧ Fits Tryd.prog (K + 1) 49 (x.f 3) ∧ dirsFit K (x.f 4).l ∧ (tx (x.f 0).s).length + bulkD (x.f 1) + bulkD (x.f 3) + bulkL (x.f 4).l + 4 ≤ bulkD x := by
  obtain ⟨x0, x1, x2, x3, x4, rfl, h1, h3, h4⟩ := fits132 h.fits
  refine ⟨h1.up, h3.up, fitL h4, ?_⟩
  have hb : bulkD (D.obj [.str x0, x1, .bool x2, x3, .list x4]) = x0.size + 1 + (bulkD x1 + (1 + (bulkD x3 + (bulkL x4 + 1)))) + 1 := by simp [bulkD, bulkL]
  have h5 : (tx x0).length = x0.size := tx_size x0
  show (tx x0).length + bulkD x1 + bulkD x3 + bulkL x4 + 4 ≤ _
  omega
set_option maxRecDepth 100000 in
theorem inT_bound {K : Nat} {x : D} (h : InOk K x) : (inT K x).length + 4 ≤ 8 * bulkD x := by
  obtain ⟨h1, h2, h3, h4⟩ := h.parts
  have q1 := (refT_bound h1).1
  have q2 := valF_bound _ _ h2 h.wv
  have q3 := tail_boundq h3 h.wd
  have := inB_le (n := tx (x.f 0).s) (rt := refT (x.f 1)) (vt := valF (K + 1) (x.f 3)) (dt := tailB (K + 1) (x.f 4).l) (h := (x.f 2).b)
  show (inputB _ _ _ _ _).length + 4 ≤ _
  omega
set_option maxRecDepth 100000 in
theorem FldOk.parts {K : Nat} {x : D} (h : FldOk K x) : Fits Tryd.prog (K + 1) 62 (x.f 2) ∧ dirsFit K (x.f 3).l ∧ (tx (x.f 0).s).length + bulkL (x.f 1).l + bulkD (x.f 2) + bulkL (x.f 3).l + 4 ≤ bulkD x := by
  obtain ⟨x0, x1, x2, x3, rfl, h1, h3, h4⟩ := fits64 h.fits
  refine ⟨h3.up, fitL h4, ?_⟩
  have hb : bulkD (D.obj [.str x0, .list x1, x2, .list x3]) = x0.size + 1 + (bulkL x1 + 1 + (bulkD x2 + (bulkL x3 + 1))) + 1 := by simp [bulkD, bulkL]
  have h5 : (tx x0).length = x0.size := tx_size x0
  show (tx x0).length + bulkL x1 + bulkD x2 + bulkL x3 + 4 ≤ _
  omega
set_option maxRecDepth 100000 in
theorem insJoin {K : Nat} {l : List D} (h : ∀ i, i < l.length → InOk K (gD l i)) : (Lib.join (mapU l (inT K)) [44, 32]).length ≤ 8 * bulkL l :=
  mapU_join fun i hi => by have := inT_bound (h i hi); simp only [List.length_cons, List.length_nil]; omega
set_option maxRecDepth 100000 in
theorem fldT_bound {K : Nat} {x : D} (h : FldOk K x) : (fldT K x).length + 4 ≤ 8 * bulkD x := by
  obtain ⟨h1, h2, h3⟩ := h.parts
  have q1 := (refT_bound h1).1
  have q2 := insJoin h.ins
  have q3 := tail_boundq h2 h.wd
  unfold fldT fieldB
  split
  · simp only [List.length_append, List.length_cons, List.length_nil]; omega
  · simp only [List.length_append, List.length_cons, List.length_nil]; omega
set_option maxRecDepth 100000 in
theorem memT_bound {K : Nat} {x : D} (h : MemOkT K x) : (memT K x).length + 2 ≤ 8 * bulkD x ∧ (tx (x.f 0).s).length + bulkL (x.f 1).l + 3 ≤ bulkD x ∧ dirsFit K (x.f 1).l := by
  obtain ⟨x0, x1, e, h1⟩ := fits112 h.fits
  have hf : dirsFit K (x.f 1).l := by rw [e]; exact fitL h1
  have q3 := tail_boundq hf h.wd
  have hb : bulkD x = x0.size + 1 + (bulkL x1 + 1) + 1 := by rw [e]; simp [bulkD, bulkL]
  have h5 : (tx (x.f 0).s).length = x0.size := by rw [e]; exact tx_size x0
  have h6 : (x.f 1).l = x1 := by rw [e]; rfl
  rw [h6] at q3 ⊢
  refine ⟨?_, by omega, by rw [← h6]; exact hf⟩
  unfold memT
  rw [h6, List.length_append]; omega
set_option maxRecDepth 100000 in
theorem linesB_len (ts : List (List UInt8)) : (linesB ts).length = (ts.map fun t => t.length + 3).sum := by
  unfold linesB
  induction ts with
  | nil => rfl
  | cons t r ih => simp only [List.map_cons, List.flatten_cons, List.length_append, List.sum_cons, List.length_cons, List.length_nil, ih]; omega
set_option maxRecDepth 100000 in
theorem mapU_lines {l : List D} {f : D → List UInt8} (h : ∀ i, i < l.length → (f (gD l i)).length + 2 ≤ 8 * bulkD (gD l i)) : (linesB (mapU l f)).length ≤ 9 * bulkL l := by
  rw [linesB_len]
  unfold mapU
  rw [List.map_map, bulkL_range, ← map_sum_mul]
  refine sum_range_le fun i hi => ?_
  have := h i hi
  have h1 : 1 ≤ bulkD (gD l i) := by cases gD l i <;> simp [bulkD]
  show (f (gD l i)).length + 3 ≤ _
  omega
set_option maxRecDepth 100000 in
theorem DefOk.parts {K : Nat} {x : D} (h : DefOk K x) : (x.f 2).l = strsD (mapU (x.f 2).l fun s => tx s.s) ∧ dirsFit K (x.f 3).l ∧ (tx (x.f 1).s).length + bulkL (x.f 2).l + bulkL (x.f 3).l + bulkL (x.f 4).l + bulkL (x.f 5).l + bulkL (x.f 6).l + 8 ≤ bulkD x ∧ ∀ i, i < (x.f 2).l.length → (tx (gD (x.f 2).l i).s).length + 1 ≤ bulkD (gD (x.f 2).l i) := by
  obtain ⟨x0, x1, x2, x3, x4, x5, x6, rfl, h2, h3, -⟩ := fits58 h.fits
  refine ⟨?_, fitL h3, ?_, ?_⟩
  · show x2 = strsD (mapU x2 fun s => tx s.s)
    apply List.ext_getElem (by rw [strsD_length, mapU_len])
    intro i hi hi2
    obtain ⟨s, hs⟩ := fits_str (h2 i hi)
    have e : x2[i] = .str s := by rw [← gD_get hi]; exact hs
    rw [e]
    simp only [strsD, mapU, List.getElem_map, List.getElem_range, hs]
    show D.str s = .str (bs (tx s))
    rw [bs_tx]
  · have hb : bulkD (D.obj [.int x0, .str x1, .list x2, .list x3, .list x4, .list x5, .list x6]) = 1 + (x1.size + 1 + (bulkL x2 + 1 + (bulkL x3 + 1 + (bulkL x4 + 1 + (bulkL x5 + 1 + (bulkL x6 + 1)))))) + 1 := by simp [bulkD, bulkL]
    have h5 : (tx x1).length = x1.size := tx_size x1
    show (tx x1).length + bulkL x2 + bulkL x3 + bulkL x4 + bulkL x5 + bulkL x6 + 8 ≤ _
    omega
  · intro i hi
    obtain ⟨s, hs⟩ := fits_str (h2 i hi)
    show (tx (gD x2 i).s).length + 1 ≤ bulkD (gD x2 i)
    rw [hs]
    have h5 : (tx s).length = s.size := tx_size s
    show (tx s).length + 1 ≤ bulkD (D.str s)
    rw [h5]; simp [bulkD]
set_option maxRecDepth 100000 in
theorem implJoin {K : Nat} {x : D} (h : DefOk K x) : (Lib.join (mapU (x.f 2).l fun s => tx s.s) [32, 38, 32]).length ≤ 8 * bulkL (x.f 2).l :=
  mapU_join fun i hi => by have := h.parts.2.2.2 i hi; simp only [List.length_cons, List.length_nil]; omega
set_option maxRecDepth 100000 in
theorem memJoin {K : Nat} {x : D} (h : DefOk K x) : (Lib.join (mapU (x.f 5).l fun m => tx (m.f 0).s) [32, 124, 32]).length ≤ 8 * bulkL (x.f 5).l :=
  mapU_join fun i hi => by have := (memT_bound (h.mems i hi)).2.1; simp only [List.length_cons, List.length_nil]; omega
set_option maxRecDepth 100000 in
theorem linesT_bound {K : Nat} {x : D} (h : DefOk K x) : (linesB (linesT K x)).length ≤ 9 * bulkD x ∧ (linesT K x).length ≤ bulkD x := by
  have h3 := h.parts.2.2.1
  have l4 := bulkL_len (x.f 4).l
  have l5 := bulkL_len (x.f 5).l
  have l6 := bulkL_len (x.f 6).l
  unfold linesT
  split
  · have := mapU_lines (l := (x.f 4).l) (f := fldT K) fun i hi => by have := fldT_bound (h.fields i hi); omega
    rw [mapU_len]; omega
  split
  · have := mapU_lines (l := (x.f 5).l) (f := memT K) fun i hi => (memT_bound (h.mems i hi)).1
    rw [mapU_len]; omega
  split
  · have := mapU_lines (l := (x.f 6).l) (f := inT K) fun i hi => by have := inT_bound (h.ins i hi); omega
    rw [mapU_len]; omega
  · simp [linesB]
set_option maxRecDepth 100000 in
theorem blkT_bound {K : Nat} {x : D} (h : DefOk K x) : (blkT K x).length + 1 ≤ 40 * bulkD x := by
  obtain ⟨-, h2, h3, -⟩ := h.parts
  have q1 := implJoin h
  have q2 := memJoin h
  have q3 := (linesT_bound h).1
  have q4 := tail_boundq h2 h.wd
  have q5 := (kw_at h.kind).2
  unfold blkT blockB headB
  split <;> split <;> simp only [List.length_append, List.length_cons, List.length_nil] <;> omega
set_option maxRecDepth 100000 in
theorem docT_bound {K : Nat} {d : D} (h : ∀ i, i < (d.f 0).l.length → DefOk K (gD (d.f 0).l i)) : (docT K d).length ≤ 40 * bulkL (d.f 0).l := by
  unfold docT
  refine Nat.le_trans (join_length _ _) ?_
  unfold mapU
  rw [List.map_map, bulkL_range, ← map_sum_mul]
  exact sum_range_le fun i hi => by have := blkT_bound (h i hi); exact this
end Go.Proofs.YtohneabalakmeaaDoor
