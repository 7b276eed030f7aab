/- Parts of a proof, merged by a program (shake.py). -/
import Derived.Test.YthjiclhfhjdjpaaGreatDoorQ38
set_option linter.unusedVariables false
set_option linter.unusedSimpArgs false
namespace Go.Proofs.YthjiclhfhjdjpaaGreatDoor
open Go.RowKit
attribute [local irreducible] wpList Calls Code.wp
section
variable {X : Cx} {nn : Nat} {st : Vst nn} {o : Oper} {K : Vst nn → Prop}
/-- append(nil, ..): a slice under way begins -/
theorem opOk_append_nil {t e : TypeId} {by_ d : Nat} {x y : Operand} {l2 : List D} (ho : o.op = .call { callee := .builtin .append, args := #[x, y], argTypes := #[t, t] }) (hd : o.dst = some d) (hdl : Nat.ble d 999999 = true) (he : elemOk X.P t = some (e, by_))
    (hleaf : ∀ d, (cellsV X.P 12 e d).all V.leaf = true) (hx : ev st x = .c (.slice none 0 0)) (hy : (ev st y).out = .sl e l2) (hpos : 0 < l2.length) (hlen : l2.length ≤ maxLen) (hby : l2.length * by_ ≤ 140737488355328)
    (hK : K (((st.kill d).res d (.tok e l2.length)).put (some d) (.own d e l2))) : OpOk X o st K := by
  intro s w a hI N Q hP hN
  obtain ⟨hu, hlay, i, z, hi, hz, hb, hsp, hzs, hsz⟩ := elemOk_ok he
  obtain ⟨ad, c, news, q1, q2, q3, q4, q5⟩ := news_of hy (hI.ev y) hpos (by omega) hlay hleaf
  have hxe := hI.ev x
  rw [hx, rel] at hxe
  have hr := run_append_nil (P := X.P) w t o.type e i z hu hi hz ad l2.length c news (by rw [q2, hsz]) q3 hpos (by simp only [maxLen] at hlen; omega) (by rw [hb]; omega)
  unfold Oper.wp
  rw [run_append ho (by rw [hxe.1, q1]; exact hr), Oper.upon_value, hd]
  have hge := grownCap_ge w l2.length 0 e
  have hgm := grownCap_le_maxLen w l2.length 0 e hlen
  generalize grownCap w l2.length 0 e = cap at *
  have hcur : (news.toArray ++ Builtin.zeroCells z.cells (cap - l2.length)).size = cap * X.P.cellsOf e := by
    simp only [Array.size_append, List.size_toArray, size_zeroCells, hzs, q2, hsz, ← Nat.add_mul]
    congr 1; omega
  have hI' := hI.kill d
  have hkeep : Keeps s.F (s.tok d w.heap.size (l2.length * X.P.cellsOf e) (.slice (some ⟨w.heap.size, 0, none⟩) l2.length cap) l2.length).F w (w.drew.alloc (.cells (news.toArray ++ Builtin.zeroCells z.cells (cap - l2.length)) e)) := keeps_grow hI.mem _ e _
  have hext : Ext (fun m => m = d) s w (s.tok d w.heap.size (l2.length * X.P.cellsOf e) (.slice (some ⟨w.heap.size, 0, none⟩) l2.length cap) l2.length) (w.drew.alloc (.cells (news.toArray ++ Builtin.zeroCells z.cells (cap - l2.length)) e)) :=
    ⟨hkeep, fun _ _ => rfl, fun q hq => .inl (by simp only [Sg.tok]; rw [if_neg hq])⟩
  have hmem := hI'.mem.tokNew hI.base (k := d) (fun m => m = d) (fun _ h => h) free_kill hcur hge hgm hext
  refine hN _ _ _ _ (Inv.put (st := (st.kill d).res d (.tok e l2.length)) (v := .own d e l2) ⟨hI.sz, fun i hi => ?_, hI.df, hI.fr.trans (frm_grow w _ _) (q := fun _ => False) (fun _ h => h.elim), hI.kp.trans hkeep, fun b o hb hnp hF => ?_, hmem, hI.pe.ext hext fun m hm => by subst hm; exact Nat.le_of_ble_eq_true hdl⟩ (some d) ?_) hK
  · exact rel.ext hext _ _ (killV_rel (hI.tm i hi)).1 fun n hn => by subst hn; exact (killV_rel (hI.tm i hi)).2
  · rcases hF with hF | ⟨rfl, _⟩
    · exact hI.nf b o hb hnp hF
    · have := hI.base; omega
  · rw [rel]
    refine ⟨?_, by simp [Sg.tok], fun _ => by simp [Sg.tok]⟩
    have := join_sl (l := []) (xs := []) (c := cap) (g := w.heap.size) hkeep (by omega : 0 < X.P.cellsOf e) (by simp) q2 ⟨0, fun i hi => by simp at hi⟩ q5 (fun j u hj => ?_) (by simpa using hge) hgm
    · simpa using this
    · rw [List.nil_append] at hj
      have hjl := (List.getElem?_eq_some_iff.1 hj).1
      refine ⟨cell_new (w := w.drew) ?_, .inr ⟨rfl, by omega⟩⟩
      rw [Array.getElem?_append_left (by simpa using hjl)]
      simpa using hj
end
end Go.Proofs.YthjiclhfhjdjpaaGreatDoor
