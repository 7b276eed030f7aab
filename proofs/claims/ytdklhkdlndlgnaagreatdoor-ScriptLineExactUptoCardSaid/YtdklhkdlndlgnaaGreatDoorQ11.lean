/- Parts of a proof, merged by a program (shake.py). -/
import Derived.Test.YtdklhkdlndlgnaaGreatDoorQ10
set_option linter.unusedVariables false
set_option linter.unusedSimpArgs false
namespace Go.Proofs.YtdklhkdlndlgnaaGreatDoor
open Go.RowKit
attribute [local irreducible] wpList Calls Code.wp
section
variable {P : Program} {s : Sg} {w w' : World}
theorem take_block {xs ys : List Value} {sz : Nat} {n i : Nat} (hx : xs.length = n * sz) :
    (i < n → ((xs ++ ys).drop (i * sz)).take sz = (xs.drop (i * sz)).take sz) ∧ (n ≤ i → ((xs ++ ys).drop (i * sz)).take sz = (ys.drop ((i - n) * sz)).take sz) := by
  constructor
  · intro h
    have h1 : (i + 1) * sz ≤ n * sz := Nat.mul_le_mul_right _ h
    rw [Nat.add_mul] at h1
    rw [List.drop_append_of_le_length (by omega), List.take_append_of_le_length (by rw [List.length_drop]; omega)]
  · intro h
    have h1 : n * sz ≤ i * sz := Nat.mul_le_mul_right _ h
    rw [List.drop_append, List.drop_of_length_le (by omega), List.nil_append, hx, Nat.sub_mul]
/-- two runs of elements, one behind the other in a block that no longer turns there -/
theorem join_sl {F F' : Nat → Nat → Prop} {e : TypeId} {g c : Nat} {l l2 : List D} {xs news : List Value} (hk : Keeps F F' w w') (hsz : 0 < P.cellsOf e) (hx : xs.length = l.length * P.cellsOf e) (hn : news.length = l2.length * P.cellsOf e)
    (h1 : ∃ k, ∀ i, i < l.length → RepF P w F k e ((xs.drop (i * P.cellsOf e)).take (P.cellsOf e)) (gD l i)) (h2 : ∃ k, ∀ i, i < l2.length → RepF P w F k e ((news.drop (i * P.cellsOf e)).take (P.cellsOf e)) (gD l2 i))
    (hc : ∀ j u, (xs ++ news)[j]? = some u → w'.cell? ⟨g, j, none⟩ = some u ∧ F' g j) (hle : l.length + l2.length ≤ c) (hm : c ≤ maxLen) : SlV P w' F' e (l ++ l2) (.slice (some ⟨g, 0, none⟩) (l.length + l2.length) c) := by
  obtain ⟨k1, h1⟩ := h1
  obtain ⟨k2, h2⟩ := h2
  rw [← List.length_append]
  refine slice_of_cells (by simpa using hle) hm fun i hi => ?_
  have hall : (xs ++ news).length = (l ++ l2).length * P.cellsOf e := by rw [List.length_append, hx, hn, List.length_append, Nat.add_mul]
  have hb : (i + 1) * P.cellsOf e ≤ (l ++ l2).length * P.cellsOf e := Nat.mul_le_mul_right _ hi
  rw [Nat.add_mul] at hb
  refine ⟨((xs ++ news).drop (i * P.cellsOf e)).take (P.cellsOf e), by rw [List.length_take, List.length_drop]; omega, fun j u hj => ?_, ?_⟩
  · rw [List.getElem?_take] at hj
    split at hj
    · rw [List.getElem?_drop] at hj; exact hc _ u hj
    · cases hj
  · by_cases h : i < l.length
    · rw [(take_block hx).1 h, gD_left h]
      exact ⟨k1, (h1 i h).turn hk⟩
    · rw [(take_block hx).2 (by omega)]
      have e1 : gD (l ++ l2) i = gD l2 (i - l.length) := by
        unfold gD; rw [List.getD_eq_getElem?_getD, List.getD_eq_getElem?_getD, List.getElem?_append_right (by omega)]
      rw [e1]
      rw [List.length_append] at hi
      exact ⟨k2, (h2 _ (by omega)).turn hk⟩
variable {pas : Nat → Prop} {B : Nat} {rs : Nat → Option Res}
/-- cells of a block that no longer turn from now on -/
def Sg.tok (s : Sg) (k g n : Nat) (v : Value) (m : Nat) : Sg := { F := fun b o => s.F b o ∨ (b = g ∧ o < n), bx := s.bx, tb := fun q => if q = k then some g else s.tb q, tk := fun q => if q = k then (v, m) else s.tk q }
theorem keeps_grow (h : MemOk P pas B rs s w) (cur : Array Value) (e : TypeId) (n : Nat) : Keeps s.F (fun b o => s.F b o ∨ (b = w.heap.size ∧ o < n)) w (w.drew.alloc (.cells cur e)) := fun b o hF =>
  ⟨(cell_alloc (w := w.drew) (h.fx b o hF)).trans rfl, .inl hF⟩
theorem blk_tok {s : Sg} {k g n m q : Nat} {v : Value} {ρ : Res} (e : q ≠ k) : (s.tok k g n v m).bk q ρ = s.bk q ρ := by funext x; cases ρ <;> simp [Sg.bk, Sg.tok, e]
/-- a slice under way in a new block -/
theorem MemOk.tokNew (h : MemOk P pas B rs s w) (hB : B ≤ w.heap.size) {k : Nat} (X : Nat → Prop) (hX : ∀ q, X q → q = k) (hf : ∀ q ρ, q ≠ k → rs q = some ρ → ∀ n, X n → ρ.free n = true) {cur : Array Value} {e : TypeId} {c m : Nat} (hc : cur.size = c * P.cellsOf e) (hm : m ≤ c) (hmx : c ≤ maxLen)
    (hx : Ext X s w (s.tok k w.heap.size (m * P.cellsOf e) (.slice (some ⟨w.heap.size, 0, none⟩) m c) m) (w.drew.alloc (.cells cur e))) :
    MemOk P pas B (updR rs k (.tok e m)) (s.tok k w.heap.size (m * P.cellsOf e) (.slice (some ⟨w.heap.size, 0, none⟩) m c) m) (w.drew.alloc (.cells cur e)) where
  fx b o hF := by
    rcases hF with hF | ⟨rfl, hF⟩
    · rw [cell_alloc (w := w.drew) (h.fx b o hF)]; exact h.fx b o hF
    · have : o < cur.size := by rw [hc]; exact Nat.lt_of_lt_of_le hF (Nat.mul_le_mul_right _ hm)
      have h2 := cell_new (w := w.drew) (t := e) (Array.getElem?_eq_getElem this)
      exact Option.isSome_iff_exists.2 ⟨_, h2⟩
  ho q ρ hq := by
    by_cases e' : q = k
    · subst e'
      simp only [updR, if_true] at hq
      cases hq
      refine ⟨by simp [Sg.tok], .inr ⟨w.heap.size, c, cur, by simp [Sg.tok], by simp [Sg.tok], heap_alloc_new w.drew _, hm, hmx, hc, fun o ho hF => ?_⟩⟩
      rcases hF with hF | ⟨_, hF⟩
      · obtain ⟨v, hv⟩ := Option.isSome_iff_exists.1 (h.fx _ o hF)
        have := block_lt_of_cell hv
        simp at this
      · omega
    · simp only [updR, if_neg e'] at hq
      refine (h.ho q ρ hq).keep hx (fun hXq => e' (hX q hXq)) (by simp [Sg.tok, e']) (by simp [Sg.tok, e']) (fun n hn => hf q ρ e' hq n hn) (fun b hb => Below.heap_alloc w.drew _ _ ((h.ho q ρ hq).lt hb)) (fun b o hb hF => ?_)
      rcases hF with hF | ⟨rfl, _⟩
      · exact hF
      · have := (h.ho q ρ hq).lt hb; omega
  bs q ρ b hq hb := by
    by_cases e' : q = k
    · subst e'
      simp only [updR, if_true] at hq
      cases hq
      simp only [Sg.bk, Sg.tok, if_true] at hb
      cases hb; exact .inl hB
    · simp only [updR, if_neg e'] at hq
      rw [blk_tok e'] at hb
      exact h.bs q ρ b hq hb
  dj q r ρ ρ' b hq hr hqb hrb := by
    by_cases e1 : q = k <;> by_cases e2 : r = k
    · rw [e1, e2]
    · simp only [updR, if_neg e2] at hr
      rw [blk_tok e2] at hrb
      subst e1
      simp only [updR, if_true] at hq
      cases hq
      simp only [Sg.bk, Sg.tok, if_true] at hqb
      cases hqb
      have := (h.ho r ρ' hr).lt hrb
      omega
    · simp only [updR, if_neg e1] at hq
      rw [blk_tok e1] at hqb
      subst e2
      simp only [updR, if_true] at hr
      cases hr
      simp only [Sg.bk, Sg.tok, if_true] at hrb
      cases hrb
      have := (h.ho q ρ hq).lt hqb
      omega
    · simp only [updR, if_neg e1] at hq
      simp only [updR, if_neg e2] at hr
      rw [blk_tok e1] at hqb
      rw [blk_tok e2] at hrb
      exact h.dj q r ρ ρ' b hq hr hqb hrb
/-- a slice under way, in its old block -/
theorem MemOk.tokOld (h : MemOk P pas B rs s w) {k g : Nat} {cur : Array Value} {e : TypeId} {c m n : Nat} (hr : rs k = some (.tok e n)) (hg : s.tb k = some g) (hc : cur.size = c * P.cellsOf e) (hm : m ≤ c) (hmx : c ≤ maxLen) (hnm : n < m)
    (hcur : w'.heap[g]? = some (.cells cur e (0, 0))) (hsame : ∀ b, b ≠ g → w'.heap[b]? = w.heap[b]?) (hcells : ∀ o, s.F g o → w'.cell? ⟨g, o, none⟩ = w.cell? ⟨g, o, none⟩) :
    Ext (fun _ => False) s w (s.tok k g (m * P.cellsOf e) (.slice (some ⟨g, 0, none⟩) m c) m) w' ∧ MemOk P pas B (updR rs k (.tok e m)) (s.tok k g (m * P.cellsOf e) (.slice (some ⟨g, 0, none⟩) m c) m) w' := by
  have hcell : ∀ b o, s.F b o → w'.cell? ⟨b, o, none⟩ = w.cell? ⟨b, o, none⟩ := fun b o hF => by
    by_cases e' : b = g
    · subst e'; exact hcells o hF
    · exact World.cell?_of_block (w := w) (hsame b e')
  have hx : Ext (fun _ => False) s w (s.tok k g (m * P.cellsOf e) (.slice (some ⟨g, 0, none⟩) m c) m) w' := ⟨fun b o hF => ⟨hcell b o hF, .inl hF⟩, fun _ _ => rfl, fun q _ => by
    by_cases e' : q = k
    · subst e'
      refine .inr ?_
      have := (h.ho q _ hr).1
      simp only [Sg.tok, if_true]; omega
    · exact .inl (by simp [Sg.tok, e'])⟩
  have hb0 : s.bk k (.tok e n) g := hg
  refine ⟨hx, ?_, ?_, ?_, ?_⟩
  · intro b o hF
    rcases hF with hF | ⟨rfl, hF⟩
    · rw [hcell b o hF]; exact h.fx b o hF
    · have : o < cur.size := by rw [hc]; exact Nat.lt_of_lt_of_le hF (Nat.mul_le_mul_right _ hm)
      rw [cell_of_row _ b o cur e (0, 0) hcur, Array.getElem?_eq_getElem this]; rfl
  · intro q ρ hq
    by_cases e' : q = k
    · subst e'
      simp only [updR, if_true] at hq
      cases hq
      refine ⟨by simp [Sg.tok], .inr ⟨g, c, cur, by simp [Sg.tok], by simp [Sg.tok], hcur, hm, hmx, hc, fun o ho hF => ?_⟩⟩
      rcases hF with hF | ⟨_, hF⟩
      · obtain ⟨_, hh | ⟨g', c', cur', h1, h2, h3, h4, h5, h6, h7⟩⟩ := h.ho q _ hr
        · rw [hh.1] at hg; cases hg
        · rw [h1] at hg; cases hg
          exact h7 o (Nat.le_trans (Nat.mul_le_mul_right _ (Nat.le_of_lt hnm)) ho) hF
      · omega
    · simp only [updR, if_neg e'] at hq
      refine (h.ho q ρ hq).keep hx (fun h => h) (by simp [Sg.tok, e']) (by simp [Sg.tok, e']) (fun _ h => h.elim) (fun b hb => hsame b fun e2 => ?_) (fun b o hb hF => ?_)
      · subst e2; exact e' (h.dj q k _ _ b hq hr hb hb0)
      · rcases hF with hF | ⟨rfl, _⟩
        · exact hF
        · exact (e' (h.dj q k _ _ b hq hr hb hb0)).elim
  · intro q ρ b hq hb
    by_cases e' : q = k
    · subst e'
      simp only [updR, if_true] at hq
      cases hq
      simp only [Sg.bk, Sg.tok, if_true] at hb
      cases hb; exact h.bs q _ g hr hb0
    · simp only [updR, if_neg e'] at hq
      rw [blk_tok e'] at hb
      exact h.bs q ρ b hq hb
  · intro q r ρ ρ' b hq hr' hqb hrb
    have old : ∀ q ρ, updR rs k (.tok e m) q = some ρ → (s.tok k g (m * P.cellsOf e) (.slice (some ⟨g, 0, none⟩) m c) m).bk q ρ b → ∃ ρ', rs q = some ρ' ∧ s.bk q ρ' b := fun q ρ hq hb => by
      by_cases e' : q = k
      · subst e'
        simp only [updR, if_true] at hq
        cases hq
        simp only [Sg.bk, Sg.tok, if_true] at hb
        cases hb; exact ⟨_, hr, hb0⟩
      · simp only [updR, if_neg e'] at hq
        rw [blk_tok e'] at hb
        exact ⟨ρ, hq, hb⟩
    obtain ⟨r1, h1, h2⟩ := old q ρ hq hqb
    obtain ⟨r2, h3, h4⟩ := old r ρ' hr' hrb
    exact h.dj q r _ _ b h1 h3 h2 h4
end
section
variable {X : Cx} {nn : Nat} {st : Vst nn} {o : Oper} {K : Vst nn → Prop}
/-- what stands behind the second operand of an append -/
theorem news_of {s : Sg} {w : World} {P : Program} {e : TypeId} {l2 : List D} {vy : V} {u : Value} (hy : vy.out = .sl e l2) (hr : rel P s w vy u) (hpos : 0 < l2.length) (hz : 0 < P.cellsOf e) (hlay : layB P 12 e = true) (hleaf : ∀ d, (cellsV P 12 e d).all V.leaf = true) :
    ∃ (a : Addr) (c : Nat) (news : List Value), u = .slice (some a) l2.length c ∧ news.length = l2.length * P.cellsOf e ∧ (∀ j x, news[j]? = some x → w.cell? (a.add j) = some x) ∧ (∀ x ∈ news, x.oneCell' = true) ∧ ∃ k, ∀ i, i < l2.length → RepF P w s.F k e ((news.drop (i * P.cellsOf e)).take (P.cellsOf e)) (gD l2 i) := by
  have h := rel.out _ _ hr
  rw [hy, rel] at h
  obtain ⟨b, off, c, rfl, hle, xs, h1, h2, k, h3⟩ := slice_cells h hz hpos
  refine ⟨_, c, xs, rfl, h1, fun j x hj => by rw [Addr.add_none]; exact (h2 j x hj).1, fun x hx => ?_, k, h3⟩
  obtain ⟨j, hj, rfl⟩ := List.getElem_of_mem hx
  have hi : j / P.cellsOf e < l2.length := Nat.div_lt_of_lt_mul (by rw [Nat.mul_comm, ← h1]; exact hj)
  have hr2 := h3 _ hi
  have hm : j % P.cellsOf e < P.cellsOf e := Nat.mod_lt _ hz
  have hb : (j / P.cellsOf e + 1) * P.cellsOf e ≤ l2.length * P.cellsOf e := Nat.mul_le_mul_right _ hi
  rw [Nat.add_mul] at hb
  have hc := cells_rel 12 k e _ _ hr2 (by rw [List.length_take, List.length_drop]; omega) hlay
  refine hc.ones (hleaf _) _ (List.mem_of_getElem? (i := j % P.cellsOf e) ?_)
  rw [List.getElem?_take, if_pos hm, List.getElem?_drop]
  have e1 : j / P.cellsOf e * P.cellsOf e + j % P.cellsOf e = j := by rw [Nat.mul_comm]; exact Nat.div_add_mod _ _
  rw [e1]
  exact List.getElem?_eq_getElem hj
theorem frm_grow (w : World) (o : Obj) (q : Nat → Prop) : Frm q w (w.drew.alloc o) := ⟨rfl, rfl, rfl, by simp, fun k hk _ => by rw [Below.heap_alloc w.drew o k hk]; rfl⟩
theorem run_append {o : Oper} {t : TypeId} {x y : Operand} {P : Program} {w w' : World} {ρ : Operand → Value} {v : Value} (ho : o.op = .call { callee := .builtin .append, args := #[x, y], argTypes := #[t, t] })
    (h : (Builtin.append_ #[t, t] o.type #[ρ x, ρ y]).run P w = .ok v w') : (execOp ρ o).run P w = .ok (.value v) w' := by
  simp [execOp, ho, resolve, invoke, builtin, h]
theorem free_kill {st : Vst nn} {d : Nat} : ∀ q ρ, q ≠ d → (st.kill d).rs q = some ρ → ∀ n, n = d → ρ.free n = true := fun q ρ _ hq n hn => by subst hn; exact kill_free st n q hq
/-- append(nil, ..): a slice under way begins -/
theorem opOk_append_nil {t e : TypeId} {by_ d : Nat} {x y : Operand} {l2 : List D} (ho : o.op = .call { callee := .builtin .append, args := #[x, y], argTypes := #[t, t] }) (hd : o.dst = some d) (hdl : Nat.ble d 999999 = true) (he : elemOk X.P t = some (e, by_))
    (hleaf : ∀ d, (cellsV X.P 12 e d).all V.leaf = true) (hx : ev st x = .c (.slice none 0 0)) (hy : (ev st y).out = .sl e l2) (hpos : 0 < l2.length) (hlen : l2.length ≤ maxLen) (hby : l2.length * by_ ≤ 140737488355328)
    (hK : K (((st.kill d).res d (.tok e l2.length)).put (some d) (.own d e l2))) : OpOk X o st K := by
  intro s w a hI N Q hP hN
  obtain ⟨hu, hlay, i, z, hi, hz, hb, hsp, hzs, hsz⟩ := elemOk_ok he
  obtain ⟨ad, c, news, q1, q2, q3, q4, q5⟩ := news_of hy (hI.ev y) hpos (by omega) hlay hleaf
  have hxe := hI.ev x
  rw [hx, rel] at hxe
  have hr := run_append_nil (P := X.P) w t o.type e i z hu hi hz ad l2.length c news (by rw [q2, hsz]) q3 hpos (by simp only [maxLen] at hlen; omega) (by rw [hb]; omega)
  unfold Oper.wp
  rw [run_append ho (by rw [hxe.1, q1]; exact hr), Oper.upon_value, hd]
  have hge := grownCap_ge w l2.length 0 e
  have hgm := grownCap_le_maxLen w l2.length 0 e hlen
  generalize grownCap w l2.length 0 e = cap at *
  have hcur : (news.toArray ++ Builtin.zeroCells z.cells (cap - l2.length)).size = cap * X.P.cellsOf e := by
    simp only [Array.size_append, List.size_toArray, size_zeroCells, hzs, q2, hsz, ← Nat.add_mul]
    congr 1; omega
  have hI' := hI.kill d
  have hkeep : Keeps s.F (s.tok d w.heap.size (l2.length * X.P.cellsOf e) (.slice (some ⟨w.heap.size, 0, none⟩) l2.length cap) l2.length).F w (w.drew.alloc (.cells (news.toArray ++ Builtin.zeroCells z.cells (cap - l2.length)) e)) := keeps_grow hI.mem _ e _
  have hext : Ext (fun m => m = d) s w (s.tok d w.heap.size (l2.length * X.P.cellsOf e) (.slice (some ⟨w.heap.size, 0, none⟩) l2.length cap) l2.length) (w.drew.alloc (.cells (news.toArray ++ Builtin.zeroCells z.cells (cap - l2.length)) e)) :=
    ⟨hkeep, fun _ _ => rfl, fun q hq => .inl (by simp only [Sg.tok]; rw [if_neg hq])⟩
  have hmem := hI'.mem.tokNew hI.base (k := d) (fun m => m = d) (fun _ h => h) free_kill hcur hge hgm hext
  refine hN _ _ _ _ (Inv.put (st := (st.kill d).res d (.tok e l2.length)) (v := .own d e l2) ⟨hI.sz, fun i hi => ?_, hI.df, hI.fr.trans (frm_grow w _ _) (q := fun _ => False) (fun _ h => h.elim), hI.kp.trans hkeep, fun b o hb hnp hF => ?_, hmem, hI.pe.ext hext fun m hm => by subst hm; exact Nat.le_of_ble_eq_true hdl⟩ (some d) ?_) hK
  · exact rel.ext hext _ _ (killV_rel (hI.tm i hi)).1 fun n hn => by subst hn; exact (killV_rel (hI.tm i hi)).2
  · rcases hF with hF | ⟨rfl, _⟩
    · exact hI.nf b o hb hnp hF
    · have := hI.base; omega
  · rw [rel]
    refine ⟨?_, by simp [Sg.tok], fun _ => by simp [Sg.tok]⟩
    have := join_sl (l := []) (xs := []) (c := cap) (g := w.heap.size) hkeep (by omega : 0 < X.P.cellsOf e) (by simp) q2 ⟨0, fun i hi => by simp at hi⟩ q5 (fun j u hj => ?_) (by simpa using hge) hgm
    · simpa using this
    · rw [List.nil_append] at hj
      have hjl := (List.getElem?_eq_some_iff.1 hj).1
      refine ⟨cell_new (w := w.drew) ?_, .inr ⟨rfl, by omega⟩⟩
      rw [Array.getElem?_append_left (by simpa using hjl)]
      simpa using hj
/-- append onto a slice under way -/
theorem opOk_append_own {t e : TypeId} {by_ k : Nat} {x y : Operand} {l l2 : List D} (ho : o.op = .call { callee := .builtin .append, args := #[x, y], argTypes := #[t, t] }) (he : elemOk X.P t = some (e, by_))
    (hleaf : ∀ d, (cellsV X.P 12 e d).all V.leaf = true) (hx : ev st x = .own k e l) (hr : st.rs k = some (.tok e l.length)) (hy : (ev st y).out = .sl e l2) (hpos : 0 < l2.length) (hlen : l.length + l2.length ≤ maxLen) (hby : (l.length + l2.length) * by_ ≤ 140737488355328)
    (hK : K ((st.res k (.tok e (l.length + l2.length))).put o.dst (.own k e (l ++ l2)))) : OpOk X o st K := by
  intro s w a hI N Q hP hN
  obtain ⟨hu, hlay, i, z, hi, hz, hb, hsp, hzs, hsz⟩ := elemOk_ok he
  obtain ⟨ad, c, news, q1, q2, q3, q4, q5⟩ := news_of hy (hI.ev y) hpos (by omega) hlay hleaf
  have hxe := hI.ev x
  rw [hx, rel] at hxe
  obtain ⟨hv, -, hcurv⟩ := hxe
  obtain ⟨t0, ht⟩ := hI.mem.ho k _ hr
  have hxv := hcurv t0.symm
  have hcp : 0 < X.P.cellsOf e := by omega
  unfold Oper.wp
  rcases ht with ⟨tb0, tv, tl⟩ | ⟨g, cap0, cur, tg, tv, hg, hle, hcm, hcs, hfr⟩
  · -- it was nil
    have hl0 : l = [] := List.eq_nil_of_length_eq_zero tl
    subst hl0
    simp only [List.length_nil, Nat.zero_add] at hlen hby hK
    have hrun := run_append_nil (P := X.P) w t o.type e i z hu hi hz ad l2.length c news (by rw [q2, hsz]) q3 hpos (by simp only [maxLen] at hlen; omega) (by rw [hb]; omega)
    rw [run_append ho (by rw [hxv, tv, q1]; exact hrun), Oper.upon_value]
    have hge := grownCap_ge w l2.length 0 e
    have hgm := grownCap_le_maxLen w l2.length 0 e hlen
    generalize grownCap w l2.length 0 e = cap at *
    have hcur : (news.toArray ++ Builtin.zeroCells z.cells (cap - l2.length)).size = cap * X.P.cellsOf e := by
      simp only [Array.size_append, List.size_toArray, size_zeroCells, hzs, q2, hsz, ← Nat.add_mul]
      congr 1; omega
    have hkeep : Keeps s.F (s.tok k w.heap.size (l2.length * X.P.cellsOf e) (.slice (some ⟨w.heap.size, 0, none⟩) l2.length cap) l2.length).F w (w.drew.alloc (.cells (news.toArray ++ Builtin.zeroCells z.cells (cap - l2.length)) e)) := keeps_grow hI.mem _ e _
    have hext : Ext (fun _ => False) s w (s.tok k w.heap.size (l2.length * X.P.cellsOf e) (.slice (some ⟨w.heap.size, 0, none⟩) l2.length cap) l2.length) (w.drew.alloc (.cells (news.toArray ++ Builtin.zeroCells z.cells (cap - l2.length)) e)) :=
      ⟨hkeep, fun _ _ => rfl, fun q _ => by
        by_cases e' : q = k
        · subst e'
          refine .inr ?_
          simp only [List.length_nil] at t0
          simp only [Sg.tok, if_true]; omega
        · exact .inl (by simp [Sg.tok, e'])⟩
    have hmem := hI.mem.tokNew hI.base (k := k) (fun _ => False) (fun _ h => h.elim) (fun _ _ _ _ _ h => h.elim) hcur hge hgm hext
    refine hN _ _ _ _ (Inv.put (st := st.res k (.tok e (l2.length))) (v := .own k e ([] ++ l2)) ⟨hI.sz, fun i hi => (hI.tm i hi).ext0 hext, hI.df, hI.fr.trans (frm_grow w _ _) (q := fun _ => False) (fun _ h => h.elim), hI.kp.trans hkeep, fun b o hb hnp hF => ?_, hmem, hI.pe.ext0 hext⟩ o.dst ?_) hK
    · rcases hF with hF | ⟨rfl, _⟩
      · exact hI.nf b o hb hnp hF
      · have := hI.base; omega
    · rw [rel]
      refine ⟨?_, by simp [Sg.tok], fun _ => by simp [Sg.tok]⟩
      have := join_sl (l := []) (xs := []) (c := cap) (g := w.heap.size) hkeep hcp (by simp) q2 ⟨0, fun i hi => by simp at hi⟩ q5 (fun j u hj => ?_) (by simpa using hge) hgm
      · simpa using this
      · rw [List.nil_append] at hj
        have hjl := (List.getElem?_eq_some_iff.1 hj).1
        refine ⟨cell_new (w := w.drew) ?_, .inr ⟨rfl, by omega⟩⟩
        rw [Array.getElem?_append_left (by simpa using hjl)]
        simpa using hj
  · -- the cells that it holds
    obtain ⟨xs, x1, x2, x3⟩ : ∃ xs : List Value, xs.length = l.length * X.P.cellsOf e ∧ (∀ j x, xs[j]? = some x → w.cell? ⟨g, j, none⟩ = some x ∧ s.F g j) ∧ ∃ k, ∀ i, i < l.length → RepF X.P w s.F k e ((xs.drop (i * X.P.cellsOf e)).take (X.P.cellsOf e)) (gD l i) := by
      rcases Nat.eq_zero_or_pos l.length with h0 | h0
      · exact ⟨[], by simp [h0], fun j x hj => by simp at hj, 0, fun i hi => by omega⟩
      · obtain ⟨b, off, c', hb', _, xs, x1, x2, x3⟩ := slice_cells hv hcp h0
        rw [hxv, tv] at hb'
        simp only [Value.slice.injEq, Option.some.injEq, Addr.mk.injEq, and_true, true_and] at hb'
        obtain ⟨⟨rfl, rfl⟩, rfl⟩ := hb'
        exact ⟨xs, x1, fun j x hj => by have := x2 j x hj; rwa [Nat.zero_add] at this, x3⟩
    have hcurx : ∀ j x, xs[j]? = some x → cur[j]? = some x := fun j x hj => by
      have := (x2 j x hj).1
      rwa [cell_of_row _ g j cur e (0, 0) hg] at this
    by_cases hroom : l.length + l2.length ≤ cap0
    · have hmul : (l.length + l2.length) * X.P.cellsOf e ≤ cap0 * X.P.cellsOf e := Nat.mul_le_mul_right _ hroom
      rw [Nat.add_mul] at hmul
      have hrun := run_append_room (P := X.P) w t o.type e i hu hi g l.length cap0 cur hg ad l2.length c news (by rw [q2, hsz]) q3 q4 hroom (by rw [q2, hcs, ← hsz]; exact hmul)
      rw [run_append ho (by rw [hxv, tv, q1]; exact hrun), Oper.upon_value]
      rw [← hsz]
      have hcl : cur.toList.length = cap0 * X.P.cellsOf e := by simpa using hcs
      generalize hc2 : (cur.toList.take (l.length * X.P.cellsOf e) ++ news ++ cur.toList.drop (l.length * X.P.cellsOf e + news.length)).toArray = cur2
      have hl2 : cur2.toList = cur.toList.take (l.length * X.P.cellsOf e) ++ news ++ cur.toList.drop (l.length * X.P.cellsOf e + news.length) := by rw [← hc2]
      have hsz2 : cur2.size = cap0 * X.P.cellsOf e := by
        have := congrArg List.length hl2
        simp only [Array.length_toList, List.length_append, List.length_take, List.length_drop] at this
        omega
      have hheap := setRow_heap w g cur cur2 e (0, 0) hg
      have htk : cur.toList.take (l.length * X.P.cellsOf e) = xs := by
        apply List.ext_getElem?
        intro j
        rw [List.getElem?_take]
        split
        · rename_i hj
          rw [← x1] at hj
          rw [List.getElem?_eq_getElem hj, Array.getElem?_toList]
          exact hcurx j _ (List.getElem?_eq_getElem hj)
        · rw [List.getElem?_eq_none (by omega)]
      rw [htk] at hl2
      have hjoin : ∀ j u, (xs ++ news)[j]? = some u → cur2[j]? = some u := fun j u hj => by
        have h1 := (List.getElem?_eq_some_iff.1 hj).1
        rw [← Array.getElem?_toList, hl2, List.getElem?_append_left h1]; exact hj
      have hcells : ∀ o, s.F g o → (w.setRow g cur2).cell? ⟨g, o, none⟩ = w.cell? ⟨g, o, none⟩ := fun o hF => by
        have hlt : o < l.length * X.P.cellsOf e := Nat.lt_of_not_le fun h => hfr o h hF
        rw [cell_of_row _ g o cur2 e (0, 0) hheap, cell_of_row _ g o cur e (0, 0) hg]
        have hj : o < xs.length := by omega
        rw [hcurx o _ (List.getElem?_eq_getElem hj)]
        exact hjoin o _ (by rw [List.getElem?_append_left hj]; exact List.getElem?_eq_getElem hj)
      obtain ⟨hext, hmem⟩ := hI.mem.tokOld (w' := w.setRow g cur2) (m := l.length + l2.length) hr tg hsz2 hroom hcm (by omega) hheap (fun b hb' => setRow_other w g b _ hb') hcells
      have hbb := hI.mem.bs k _ g hr (show s.bk k (.tok e l.length) g from tg)
      refine hN _ _ _ _ (Inv.put (st := st.res k (.tok e (l.length + l2.length))) (v := .own k e (l ++ l2)) ⟨hI.sz, fun i hi => (hI.tm i hi).ext0 hext, hI.df, hI.fr.trans (q := fun b => b = g) ⟨rfl, rfl, rfl, by simp, fun k _ hk => setRow_other w g k _ hk⟩ (fun b hb' => by subst hb'; exact hbb), hI.kp.trans hext.keeps, fun b o hb' hnp hF => ?_, hmem, hI.pe.ext0 hext⟩ o.dst ?_) hK
      · rcases hF with hF | ⟨rfl, hF⟩
        · exact hI.nf b o hb' hnp hF
        · rcases hbb with hbb | hbb
          · omega
          · exact (hnp hbb).elim
      · rw [rel]
        refine ⟨?_, by simp [Sg.tok], fun _ => by simp [Sg.tok]⟩
        exact join_sl (g := g) (c := cap0) hext.keeps hcp x1 q2 x3 q5 (fun j u hj => ⟨by rw [cell_of_row _ g j cur2 e (0, 0) hheap]; exact hjoin j u hj, .inr ⟨rfl, by
          have := (List.getElem?_eq_some_iff.1 hj).1
          rw [List.length_append, x1, q2] at this
          rw [Nat.add_mul]; exact this⟩⟩) hroom hcm
    · have hrun := run_append_grow (P := X.P) w t o.type e i z hu hi hz ⟨g, 0, none⟩ l.length cap0 xs (by rw [x1, hsz]) (fun j v hj => by rw [Addr.add_none, Nat.zero_add]; exact (x2 j v hj).1) ad l2.length c news (by rw [q2, hsz]) q3 (by omega) (by simp only [maxLen] at hlen; omega)
        (growslice_fits (by omega) (by rw [hb]; exact hby))
      rw [run_append ho (by rw [hxv, tv, q1]; exact hrun), Oper.upon_value]
      have hge := grownCap_ge w (l.length + l2.length) cap0 e
      have hgm := grownCap_le_maxLen w (l.length + l2.length) cap0 e hlen
      generalize grownCap w (l.length + l2.length) cap0 e = cap at *
      have hcur : (xs.toArray ++ news.toArray ++ Builtin.zeroCells z.cells (cap - (l.length + l2.length))).size = cap * X.P.cellsOf e := by
        simp only [Array.size_append, List.size_toArray, size_zeroCells, hzs, x1, q2, hsz, ← Nat.add_mul]
        congr 1; omega
      have hkeep : Keeps s.F (s.tok k w.heap.size ((l.length + l2.length) * X.P.cellsOf e) (.slice (some ⟨w.heap.size, 0, none⟩) (l.length + l2.length) cap) (l.length + l2.length)).F w (w.drew.alloc (.cells (xs.toArray ++ news.toArray ++ Builtin.zeroCells z.cells (cap - (l.length + l2.length))) e)) := keeps_grow hI.mem _ e _
      have hext : Ext (fun _ => False) s w (s.tok k w.heap.size ((l.length + l2.length) * X.P.cellsOf e) (.slice (some ⟨w.heap.size, 0, none⟩) (l.length + l2.length) cap) (l.length + l2.length)) (w.drew.alloc (.cells (xs.toArray ++ news.toArray ++ Builtin.zeroCells z.cells (cap - (l.length + l2.length))) e)) :=
        ⟨hkeep, fun _ _ => rfl, fun q _ => by
          by_cases e' : q = k
          · subst e'; refine .inr ?_
            simp only [Sg.tok, if_true]; omega
          · exact .inl (by simp [Sg.tok, e'])⟩
      have hmem := hI.mem.tokNew hI.base (k := k) (fun _ => False) (fun _ h => h.elim) (fun _ _ _ _ _ h => h.elim) hcur hge hgm hext
      refine hN _ _ _ _ (Inv.put (st := st.res k (.tok e (l.length + l2.length))) (v := .own k e (l ++ l2)) ⟨hI.sz, fun i hi => (hI.tm i hi).ext0 hext, hI.df, hI.fr.trans (frm_grow w _ _) (q := fun _ => False) (fun _ h => h.elim), hI.kp.trans hkeep, fun b o hb hnp hF => ?_, hmem, hI.pe.ext0 hext⟩ o.dst ?_) hK
      · rcases hF with hF | ⟨rfl, _⟩
        · exact hI.nf b o hb hnp hF
        · have := hI.base; omega
      · rw [rel]
        refine ⟨?_, by simp [Sg.tok], fun _ => by simp [Sg.tok]⟩
        refine join_sl (g := w.heap.size) (c := cap) hkeep hcp x1 q2 x3 q5 (fun j u hj => ?_) hge hgm
        have hjl := (List.getElem?_eq_some_iff.1 hj).1
        have hjl2 := hjl
        rw [List.length_append, x1, q2] at hjl2
        refine ⟨cell_new (w := w.drew) ?_, .inr ⟨rfl, by rw [Nat.add_mul]; exact hjl2⟩⟩
        rw [Array.getElem?_append_left (by simpa using hjl)]
        simpa using hj
end
end Go.Proofs.YtdklhkdlndlgnaaGreatDoor
