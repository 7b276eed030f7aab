/- Parts of a proof, merged by a program (shake.py). -/
import Derived.Test.YtohneabalakmeaaDoorDq38
namespace Go.Proofs.YtohneabalakmeaaDoor
open Go.RowKit
attribute [local irreducible] wpList Calls Code.wp AW AWo OpOk seqK blockK scopeK loopK endK AC absLex Yld Sub
set_option maxRecDepth 100000 in
theorem refP_tx {K : Nat} {r : D} (h : Fits Tryd.prog (K + 1) 62 r) (hb : bulkD r ≤ 1048576) : AC EN Tryd.prog 150 [.agg [.c (.string (r.f 0).s), .sl 3 (r.f 1).l]] (.c (.string (bs (refT r)))) := by
  have q := (refT_bound h).2
  have := refP_ac (tx (r.f 0).s) (r.f 1).l (by omega) (by omega)
  rw [bs_tx] at this
  exact this
set_option maxRecDepth 100000 in
theorem inP {K : Nat} {x : D} (h : InOk K x) (hb : bulkD x ≤ 1048576) : AC EN Tryd.prog 117 [.agg (cellsV Tryd.prog 12 132 x)] (.c (.string (bs (inT K x)))) := by
  obtain ⟨h1, h2, h3, h4⟩ := h.parts
  have q1 := (refT_bound h1).1
  have q2 := valF_bound _ _ h2 h.wv
  have q3 := tail_boundq h3 h.wd
  have h5 : (tx (x.f 0).s).length = (x.f 0).s.size := tx_size _
  exact inputP_ac x (refT (x.f 1)) (valF (K + 1) (x.f 3)) (tailB (K + 1) (x.f 4).l) (refP_tx h1 (by omega)) (fun hh => value_ac (K + 1) _ h2 (h.good.2 hh) (by omega)) (tailP_ac ⟨h3, by omega, h.good.1⟩) (by omega)
set_option maxRecDepth 100000 in
theorem fldP {K : Nat} {x : D} (h : FldOk K x) (hb : bulkD x ≤ 1048576) : AC EN Tryd.prog 116 [.agg (cellsV Tryd.prog 12 64 x)] (.c (.string (bs (fldT K x)))) := by
  obtain ⟨h1, h2, h3⟩ := h.parts
  have q1 := (refT_bound h1).1
  have q2 := insJoin h.ins
  have q3 := tail_boundq h2 h.wd
  have q4 := bulkL_len (x.f 1).l
  have h5 : (tx (x.f 0).s).length = (x.f 0).s.size := tx_size _
  exact fieldP_ac x (refT (x.f 2)) (tailB (K + 1) (x.f 3).l) (mapU (x.f 1).l (inT K)) (mapU_len _ _) (fun i hi => by rw [mapU_get hi]; exact inP (h.ins i hi) (by have := bulk_mem hi; omega)) (refP_tx h1 (by omega)) (tailP_ac ⟨h2, by omega, h.good⟩) (by omega) (by omega) (by rw [mapU_len]; omega)
set_option maxRecDepth 100000 in
theorem blkP {K : Nat} {x : D} (h : DefOk K x) (hb : bulkD x ≤ 1048576) : AC EN Tryd.prog 79 [.agg (cellsV Tryd.prog 12 58 x)] (.c (.string (bs (blkT K x)))) := by
  obtain ⟨h1, h2, h3, h4⟩ := h.parts
  have q1 := implJoin h
  have q2 := memJoin h
  have q3 := linesT_bound h
  have q4 := tail_boundq h2 h.wd
  have q5 := bulkL_len (x.f 2).l
  have q6 := bulkL_len (x.f 5).l
  have h5 : (tx (x.f 1).s).length = (x.f 1).s.size := tx_size _
  have b4 := fun i (hi : i < (x.f 4).l.length) => bulk_mem hi
  have b5 := fun i (hi : i < (x.f 5).l.length) => bulk_mem hi
  have b6 := fun i (hi : i < (x.f 6).l.length) => bulk_mem hi
  have e1 : (x.f 0).n = 1 ∨ (x.f 0).n = 2 → linesT K x = mapU (x.f 4).l (fldT K) := fun hn => by unfold linesT; rw [if_pos hn]
  have e4 : (x.f 0).n = 4 → linesT K x = mapU (x.f 5).l (memT K) := fun hn => by unfold linesT; rw [if_neg (by omega), if_pos hn]
  have e5 : (x.f 0).n = 5 → linesT K x = mapU (x.f 6).l (inT K) := fun hn => by unfold linesT; rw [if_neg (by omega), if_neg (by omega), if_pos hn]
  exact blockP_ac x (tailB (K + 1) (x.f 3).l) (mapU (x.f 2).l fun s => tx s.s) (mapU (x.f 5).l fun m => tx (m.f 0).s) (linesT K x) (mapU (x.f 5).l fun m => tailB (K + 1) (m.f 1).l) h.kind h1 (tailP_ac ⟨h2, by omega, h.good⟩) (fun hn => by rw [e1 hn]; exact ⟨mapU_len _ _, fun i hi => by rw [mapU_get hi]; exact fldP (h.fields i hi) (by have := b4 i hi; omega)⟩)
    (fun hn => by rw [e4 hn]; exact ⟨mapU_len _ _, fun i hi => by rw [mapU_get hi, mapU_get hi]; exact ⟨tailP_ac ⟨(memT_bound (h.mems i hi)).2.2, by have := b5 i hi; have := (memT_bound (h.mems i hi)).2.1; omega, (h.mems i hi).good⟩, rfl⟩⟩)
    (fun hn => by rw [e5 hn]; exact ⟨mapU_len _ _, fun i hi => by rw [mapU_get hi]; exact inP (h.ins i hi) (by have := b6 i hi; omega)⟩)
    (fun _ => ⟨mapU_len _ _, fun i hi => by rw [mapU_get hi, bs_tx]⟩) (by omega) (by omega) (by rw [mapU_len]; omega) (by rw [mapU_len]; omega) (by omega) (by omega) (by omega)
set_option maxRecDepth 100000 in
theorem docP {K : Nat} {d : D} (h : ∀ i, i < (d.f 0).l.length → DefOk K (gD (d.f 0).l i)) (hb : bulkL (d.f 0).l ≤ 1048576) : AC EN Tryd.prog 48 [.agg (cellsV Tryd.prog 12 42 d)] (.c (.string (bs (docT K d)))) := by
  have q := docT_bound h
  have q5 := bulkL_len (d.f 0).l
  unfold docT at q
  exact printP_ac d (mapU (d.f 0).l (blkT K)) (mapU_len _ _) (fun i hi => by rw [mapU_get hi]; exact blkP (h i hi) (by have := bulk_mem hi; omega)) (by omega) (by rw [mapU_len]; omega)
end Go.Proofs.YtohneabalakmeaaDoor
