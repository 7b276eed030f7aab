/- Parts of a proof, merged by a program (shake.py). -/
import Derived.Test.YtjhjleanihgopaaDoorQ33
set_option linter.unusedVariables false
set_option linter.unusedSimpArgs false
namespace Go.Proofs.YtjhjleanihgopaaDoor
open Go.RowKit
attribute [local irreducible] wpList Calls Code.wp AW AWo OpOk seqK blockK scopeK loopK endK endKB AC ACB absLex absLexG Yld YldG Sub
section
variable {X : Cx} {nn : Nat} {st : Vst nn} {o : Oper} {ops : Array Oper} {l : List Oper} {d : Option Tmp} {KK : Vst nn → Prop}
set_option maxRecDepth 100000 in
/-- a call that looks at a box -/
theorem s_box1 {tR : TypeId} {f : FuncId} {m : Nat} {vs az : List V} {r : V} {cs : List V} (hg : o.guard = none) (hd : o.dst = d) (h : act1 X.P st.rs (ev st) o.op = .call f vs) (hv : (m, vs) = (m, vs))
    (hr : st.rs m = some (.box tR cs)) (hcs : ∀ φ, renL φ cs = cs) (hc : ACB X.e X.P f az [.box tR cs] r [.box tR cs]) (haz : ∀ _ : Unit, renL (φin [m]) vs = az) (hrr : ∀ φ, renV φ r = r)
    (hK : AWo X ops l (st.put d r) KK) : AWo X ops (o :: l) st KK := by
  refine s_callB [m] hg hd h hc (by simp) (haz ()) (by simp [hr, renR, hcs]) ?_
  have e : ([Res.box tR cs].map (renR (φout [m]))) = [Res.box tR cs] := by simp [renR, hcs]
  rw [e, resN_one, hrr, res_same hr]
  exact hK
set_option maxRecDepth 100000 in
theorem s_guard_box {tR : TypeId} {f : FuncId} {m j : Nat} {want b : Bool} {vs az : List V} {r : V} {cs : List V} (hg : o.guard = some (j, want)) (hd : o.dst = d) (hb : gval ops st j = some b) (h : act1 X.P st.rs (ev st) o.op = .call f vs) (hv : (m, vs) = (m, vs))
    (hr : st.rs m = some (.box tR cs)) (hcs : ∀ φ, renL φ cs = cs) (hc : ACB X.e X.P f az [.box tR cs] r [.box tR cs]) (haz : ∀ _ : Unit, renL (φin [m]) vs = az) (hrr : ∀ φ, renV φ r = r)
    (hK : (b == want) = true → AWo X ops l (st.put d r) KK) (hN : (b == want) = false → AWo X ops l (st.put d (.tup [])) KK) : AWo X ops (o :: l) st KK := by
  cases e : b == want
  · exact s_skipU hg hd hb e (hN e)
  · refine awo_guard hg hb (fun _ => ?_) fun e2 => (e2 (by simpa using e)).elim
    refine opOk_callB [m] h hc (by simp) (haz ()) (by simp [hr, renR, hcs]) ?_
    have e : ([Res.box tR cs].map (renR (φout [m]))) = [Res.box tR cs] := by simp [renR, hcs]
    rw [e, resN_one, hrr, hd, res_same hr]
    exact hK (by assumption)
end
set_option maxRecDepth 100000 in
theorem nameP_ac (s : ByteArray) (hs : s.size ≤ 1000000000) : AC EN5 Tryd.prog 100 [.c (.string s)] (.c (.bool (nameB s))) := by
  refine ac_of5 (u := .bool (nameB s)) fun σ w us hus he => ?_
  obtain ⟨rfl, -⟩ := str_arg hus
  refine ⟨fun s' w' => rel_bool, (nameP s w (by omega)).mono ?_⟩
  rintro e w' ⟨rfl, rfl⟩
  exact ⟨rfl, Below.refl _ _⟩
set_option maxRecDepth 100000 in
theorem twice_ac (l : List D) (hl : l.length ≤ 1000000000) : AC EN5 Tryd.prog 103 [.sl 9 l] (.c (.bool (twiceB [] l))) := by
  refine ac_of5 (u := .bool (twiceB [] l)) fun σ w us hus he => ?_
  obtain ⟨u, rfl, h⟩ := rel_one hus
  rw [rel] at h
  obtain ⟨k, A, c, rfl, h1, h2, h3, h4⟩ := h
  exact ⟨fun s' w' => rel_bool, twiceP A l c w w (Below.refl _ _) ⟨k, h4.sl⟩ hl⟩
/-- nodeB in plain terms -/
def nodeC (n i : Int) (t : Bool) (a b : Nat) (x y : Bool) : Bool :=
  (n == 1 || n == 2 || i == 0) && (n == 3 || n == 4 || t) && (n == 6 || a == 0) && (n == 6 || n == 5 || b == 0) && decide (0 ≤ n ∧ n ≤ 6) && (!(n == 1) || i == 0 || i == 1) && (!(n == 4) || x) && (!(n == 6) || (a == b && y))
set_option maxRecDepth 100000 in
theorem node_C (d : D) : nodeB d = nodeC (d.f 0).n (d.f 1).n ((d.f 2).s.data.toList == []) (d.f 4).l.length (d.f 3).l.length (nodeB.enumB (d.f 2).s) (decide (strsL d).Nodup) := rfl
set_option maxRecDepth 100000 in
theorem str_is (s : ByteArray) (l : List UInt8) : (s.toList == (⟨l.toArray⟩ : ByteArray).toList) = (s.data.toList == l) := by
  rw [Lib.toList_data, Lib.toList_data]
set_option maxRecDepth 100000 in
theorem node_ac0 (d : D) (hk : (d.f 4).l.length ≤ 1000000000) (hs : (d.f 2).s.size ≤ 1000000000) (hn : (d.f 0).n = 0) : AC EN5 Tryd.prog 76 [.agg (cellsV Tryd.prog 12 39 d), .c (.bool false)] (.c (.bool (nodeB d))) := by
  have h1 := nameP_ac (d.f 2).s hs
  have h2 := twice_ac (d.f 4).l hk
  rw [twice_strs] at h2
  have e : cellsV Tryd.prog 12 39 d = [.c (.int .i64 (d.f 0).n), .c (.int .i64 (d.f 1).n), .c (.string (d.f 2).s), .sl 39 (d.f 3).l, .sl 9 (d.f 4).l] := rfl
  rw [node_C, e, hn]
  refine ac_enter 137 Tryd.func76 rfl rfl rfl rfl ?_
  intro s w he
  repeat' (first
    | (apply s_wanted_pick_t rfl rfl rfl
       · conv => lhs; whnf
       · first | rfl | assumption
       · conv => lhs; whnf
       · first | exact bT1 (by assumption) | exact bT2 (by assumption) | rfl)
    | (apply s_wpick_t rfl rfl rfl
       · conv => lhs; whnf
       · first | rfl | assumption
       · conv => lhs; whnf
       · first | exact bT1 (by assumption) | exact bT2 (by assumption) | rfl)
    | (apply s_wanted_pick_f rfl rfl rfl
       · conv => lhs; whnf
       · first | rfl | assumption
       · conv => lhs; whnf
       · first | exact bF1 (by assumption) | exact bF2 (by assumption) | rfl)
    | (apply s_wpick_f rfl rfl rfl
       · conv => lhs; whnf
       · first | rfl | assumption
       · conv => lhs; whnf
       · first | exact bF1 (by assumption) | exact bF2 (by assumption) | rfl)
    | refine aw_seq ?_
    | refine aw_region ?_
    | refine awo_nil ?_
    | refine k_seq ?_
    | refine k_block ?_
    | refine k_scope ?_
    | refine aw_block ?_
    | refine aw_skip ?_
    | refine aw_label ?_
    | refine aw_scope ?_
    | (apply s_pick_t rfl rfl
       · conv => lhs; whnf
       · conv => lhs; whnf
       · first | exact bT1 (by assumption) | exact bT2 (by assumption))
    | (apply s_pick_f rfl rfl
       · conv => lhs; whnf
       · conv => lhs; whnf
       · first | exact bF1 (by assumption) | exact bF2 (by assumption))
    | (apply s_val rfl
       · conv => lhs; whnf
       · conv => lhs; whnf; arg 2; whnf)
    | (apply s_call rfl
       · conv => lhs; whnf
       · conv => lhs; whnf
       · first | exact h1 | exact h2)
    | (apply s_box rfl rfl rfl rfl
       · conv => lhs; whnf; arg 1; whnf
       · rfl)
    | (apply s_wanted_val rfl
       · conv => lhs; whnf
       · conv => lhs; whnf
       · first | rfl | assumption
       · conv => lhs; whnf; arg 2; whnf)
    | (apply s_wanted_call rfl
       · conv => lhs; whnf
       · conv => lhs; whnf
       · first | rfl | assumption
       · conv => lhs; whnf
       · first | exact h1 | exact h2)
    | (apply s_skipU rfl
       · conv => lhs; whnf
       · conv => lhs; whnf
       · first | rfl | assumption)
    | (apply s_dead rfl
       · conv => lhs; whnf
       · rfl
       · rfl)
    | (apply s_guard_valU rfl
       · conv => lhs; whnf
       · conv => lhs; whnf
       · conv => lhs; whnf; arg 2; whnf)
    | (apply s_guard_callU rfl
       · conv => lhs; whnf
       · conv => lhs; whnf
       · conv => lhs; whnf
       · first | exact h1 | exact h2)
    | (apply s_guard_val rfl
       · conv => lhs; whnf
       · conv => lhs; whnf
       · conv => lhs; whnf; arg 2; whnf)
    | (apply s_guard_call rfl
       · conv => lhs; whnf
       · conv => lhs; whnf
       · conv => lhs; whnf
       · first | exact h1 | exact h2)
    | (apply aw_cond_t
       · conv => lhs; whnf; arg 1; arg 1; whnf)
    | (apply aw_cond_f
       · conv => lhs; whnf; arg 1; arg 1; whnf)
    | (refine aw_cond (by conv => lhs; whnf) ?_ ?_ <;> intro hb)
    | refine aw_ret ?_
    | refine aw_exit ?_
    | refine k_seq_exit ?_
    | refine k_seq_ret ?_
    | refine k_block_ret ?_
    | refine k_block_hit rfl ?_
    | refine k_block_miss rfl ?_
    | refine k_scope_exit ?_
    | refine k_scope_ret ?_
    | refine k_loop_exit ?_
    | refine k_loop_ret ?_
    | refine k_end ?_
    | refine k_end_ret ?_
    | (refine ⟨_, by conv => lhs; whnf; arg 2; whnf, ?_⟩; conv => rhs; whnf)
    | exact trivial
    | intro hg)
  all_goals
    clear h1 h2 he e
    have hT : ((d.f 2).s.toList == ({ data := #[] } : ByteArray).toList) = ((d.f 2).s.data.toList == []) := str_is _ []
    simp only [hT] at *
    clear hT
    generalize ((d.f 2).s.data.toList == []) = t at *
    generalize nodeB.enumB (d.f 2).s = x at *
    generalize decide (strsL d).Nodup = y at *
    generalize (d.f 4).l.length = a at *
    generalize (d.f 3).l.length = b at *
    generalize (d.f 1).n = i at *
    refine congrArg (fun b => V.c (.bool b)) ?_
    unfold nodeC
    simp_all
  all_goals try (intros; omega)
set_option maxRecDepth 100000 in
theorem node_ac1 (d : D) (hk : (d.f 4).l.length ≤ 1000000000) (hs : (d.f 2).s.size ≤ 1000000000) (hn : (d.f 0).n = 1) : AC EN5 Tryd.prog 76 [.agg (cellsV Tryd.prog 12 39 d), .c (.bool false)] (.c (.bool (nodeB d))) := by
  have h1 := nameP_ac (d.f 2).s hs
  have h2 := twice_ac (d.f 4).l hk
  rw [twice_strs] at h2
  have e : cellsV Tryd.prog 12 39 d = [.c (.int .i64 (d.f 0).n), .c (.int .i64 (d.f 1).n), .c (.string (d.f 2).s), .sl 39 (d.f 3).l, .sl 9 (d.f 4).l] := rfl
  rw [node_C, e, hn]
  refine ac_enter 137 Tryd.func76 rfl rfl rfl rfl ?_
  intro s w he
  repeat' (first
    | (apply s_wanted_pick_t rfl rfl rfl
       · conv => lhs; whnf
       · first | rfl | assumption
       · conv => lhs; whnf
       · first | exact bT1 (by assumption) | exact bT2 (by assumption) | rfl)
    | (apply s_wpick_t rfl rfl rfl
       · conv => lhs; whnf
       · first | rfl | assumption
       · conv => lhs; whnf
       · first | exact bT1 (by assumption) | exact bT2 (by assumption) | rfl)
    | (apply s_wanted_pick_f rfl rfl rfl
       · conv => lhs; whnf
       · first | rfl | assumption
       · conv => lhs; whnf
       · first | exact bF1 (by assumption) | exact bF2 (by assumption) | rfl)
    | (apply s_wpick_f rfl rfl rfl
       · conv => lhs; whnf
       · first | rfl | assumption
       · conv => lhs; whnf
       · first | exact bF1 (by assumption) | exact bF2 (by assumption) | rfl)
    | refine aw_seq ?_
    | refine aw_region ?_
    | refine awo_nil ?_
    | refine k_seq ?_
    | refine k_block ?_
    | refine k_scope ?_
    | refine aw_block ?_
    | refine aw_skip ?_
    | refine aw_label ?_
    | refine aw_scope ?_
    | (apply s_pick_t rfl rfl
       · conv => lhs; whnf
       · conv => lhs; whnf
       · first | exact bT1 (by assumption) | exact bT2 (by assumption))
    | (apply s_pick_f rfl rfl
       · conv => lhs; whnf
       · conv => lhs; whnf
       · first | exact bF1 (by assumption) | exact bF2 (by assumption))
    | (apply s_val rfl
       · conv => lhs; whnf
       · conv => lhs; whnf; arg 2; whnf)
    | (apply s_call rfl
       · conv => lhs; whnf
       · conv => lhs; whnf
       · first | exact h1 | exact h2)
    | (apply s_box rfl rfl rfl rfl
       · conv => lhs; whnf; arg 1; whnf
       · rfl)
    | (apply s_wanted_val rfl
       · conv => lhs; whnf
       · conv => lhs; whnf
       · first | rfl | assumption
       · conv => lhs; whnf; arg 2; whnf)
    | (apply s_wanted_call rfl
       · conv => lhs; whnf
       · conv => lhs; whnf
       · first | rfl | assumption
       · conv => lhs; whnf
       · first | exact h1 | exact h2)
    | (apply s_skipU rfl
       · conv => lhs; whnf
       · conv => lhs; whnf
       · first | rfl | assumption)
    | (apply s_dead rfl
       · conv => lhs; whnf
       · rfl
       · rfl)
    | (apply s_guard_valU rfl
       · conv => lhs; whnf
       · conv => lhs; whnf
       · conv => lhs; whnf; arg 2; whnf)
    | (apply s_guard_callU rfl
       · conv => lhs; whnf
       · conv => lhs; whnf
       · conv => lhs; whnf
       · first | exact h1 | exact h2)
    | (apply s_guard_val rfl
       · conv => lhs; whnf
       · conv => lhs; whnf
       · conv => lhs; whnf; arg 2; whnf)
    | (apply s_guard_call rfl
       · conv => lhs; whnf
       · conv => lhs; whnf
       · conv => lhs; whnf
       · first | exact h1 | exact h2)
    | (apply aw_cond_t
       · conv => lhs; whnf; arg 1; arg 1; whnf)
    | (apply aw_cond_f
       · conv => lhs; whnf; arg 1; arg 1; whnf)
    | (refine aw_cond (by conv => lhs; whnf) ?_ ?_ <;> intro hb)
    | refine aw_ret ?_
    | refine aw_exit ?_
    | refine k_seq_exit ?_
    | refine k_seq_ret ?_
    | refine k_block_ret ?_
    | refine k_block_hit rfl ?_
    | refine k_block_miss rfl ?_
    | refine k_scope_exit ?_
    | refine k_scope_ret ?_
    | refine k_loop_exit ?_
    | refine k_loop_ret ?_
    | refine k_end ?_
    | refine k_end_ret ?_
    | (refine ⟨_, by conv => lhs; whnf; arg 2; whnf, ?_⟩; conv => rhs; whnf)
    | exact trivial
    | intro hg)
  all_goals
    clear h1 h2 he e
    have hT : ((d.f 2).s.toList == ({ data := #[] } : ByteArray).toList) = ((d.f 2).s.data.toList == []) := str_is _ []
    simp only [hT] at *
    clear hT
    generalize ((d.f 2).s.data.toList == []) = t at *
    generalize nodeB.enumB (d.f 2).s = x at *
    generalize decide (strsL d).Nodup = y at *
    generalize (d.f 4).l.length = a at *
    generalize (d.f 3).l.length = b at *
    generalize (d.f 1).n = i at *
    refine congrArg (fun b => V.c (.bool b)) ?_
    unfold nodeC
    simp_all
  all_goals try (intros; omega)
set_option maxRecDepth 100000 in
theorem node_ac2 (d : D) (hk : (d.f 4).l.length ≤ 1000000000) (hs : (d.f 2).s.size ≤ 1000000000) (hn : (d.f 0).n = 2) : AC EN5 Tryd.prog 76 [.agg (cellsV Tryd.prog 12 39 d), .c (.bool false)] (.c (.bool (nodeB d))) := by
  have h1 := nameP_ac (d.f 2).s hs
  have h2 := twice_ac (d.f 4).l hk
  rw [twice_strs] at h2
  have e : cellsV Tryd.prog 12 39 d = [.c (.int .i64 (d.f 0).n), .c (.int .i64 (d.f 1).n), .c (.string (d.f 2).s), .sl 39 (d.f 3).l, .sl 9 (d.f 4).l] := rfl
  rw [node_C, e, hn]
  refine ac_enter 137 Tryd.func76 rfl rfl rfl rfl ?_
  intro s w he
  repeat' (first
    | (apply s_wanted_pick_t rfl rfl rfl
       · conv => lhs; whnf
       · first | rfl | assumption
       · conv => lhs; whnf
       · first | exact bT1 (by assumption) | exact bT2 (by assumption) | rfl)
    | (apply s_wpick_t rfl rfl rfl
       · conv => lhs; whnf
       · first | rfl | assumption
       · conv => lhs; whnf
       · first | exact bT1 (by assumption) | exact bT2 (by assumption) | rfl)
    | (apply s_wanted_pick_f rfl rfl rfl
       · conv => lhs; whnf
       · first | rfl | assumption
       · conv => lhs; whnf
       · first | exact bF1 (by assumption) | exact bF2 (by assumption) | rfl)
    | (apply s_wpick_f rfl rfl rfl
       · conv => lhs; whnf
       · first | rfl | assumption
       · conv => lhs; whnf
       · first | exact bF1 (by assumption) | exact bF2 (by assumption) | rfl)
    | refine aw_seq ?_
    | refine aw_region ?_
    | refine awo_nil ?_
    | refine k_seq ?_
    | refine k_block ?_
    | refine k_scope ?_
    | refine aw_block ?_
    | refine aw_skip ?_
    | refine aw_label ?_
    | refine aw_scope ?_
    | (apply s_pick_t rfl rfl
       · conv => lhs; whnf
       · conv => lhs; whnf
       · first | exact bT1 (by assumption) | exact bT2 (by assumption))
    | (apply s_pick_f rfl rfl
       · conv => lhs; whnf
       · conv => lhs; whnf
       · first | exact bF1 (by assumption) | exact bF2 (by assumption))
    | (apply s_val rfl
       · conv => lhs; whnf
       · conv => lhs; whnf; arg 2; whnf)
    | (apply s_call rfl
       · conv => lhs; whnf
       · conv => lhs; whnf
       · first | exact h1 | exact h2)
    | (apply s_box rfl rfl rfl rfl
       · conv => lhs; whnf; arg 1; whnf
       · rfl)
    | (apply s_wanted_val rfl
       · conv => lhs; whnf
       · conv => lhs; whnf
       · first | rfl | assumption
       · conv => lhs; whnf; arg 2; whnf)
    | (apply s_wanted_call rfl
       · conv => lhs; whnf
       · conv => lhs; whnf
       · first | rfl | assumption
       · conv => lhs; whnf
       · first | exact h1 | exact h2)
    | (apply s_skipU rfl
       · conv => lhs; whnf
       · conv => lhs; whnf
       · first | rfl | assumption)
    | (apply s_dead rfl
       · conv => lhs; whnf
       · rfl
       · rfl)
    | (apply s_guard_valU rfl
       · conv => lhs; whnf
       · conv => lhs; whnf
       · conv => lhs; whnf; arg 2; whnf)
    | (apply s_guard_callU rfl
       · conv => lhs; whnf
       · conv => lhs; whnf
       · conv => lhs; whnf
       · first | exact h1 | exact h2)
    | (apply s_guard_val rfl
       · conv => lhs; whnf
       · conv => lhs; whnf
       · conv => lhs; whnf; arg 2; whnf)
    | (apply s_guard_call rfl
       · conv => lhs; whnf
       · conv => lhs; whnf
       · conv => lhs; whnf
       · first | exact h1 | exact h2)
    | (apply aw_cond_t
       · conv => lhs; whnf; arg 1; arg 1; whnf)
    | (apply aw_cond_f
       · conv => lhs; whnf; arg 1; arg 1; whnf)
    | (refine aw_cond (by conv => lhs; whnf) ?_ ?_ <;> intro hb)
    | refine aw_ret ?_
    | refine aw_exit ?_
    | refine k_seq_exit ?_
    | refine k_seq_ret ?_
    | refine k_block_ret ?_
    | refine k_block_hit rfl ?_
    | refine k_block_miss rfl ?_
    | refine k_scope_exit ?_
    | refine k_scope_ret ?_
    | refine k_loop_exit ?_
    | refine k_loop_ret ?_
    | refine k_end ?_
    | refine k_end_ret ?_
    | (refine ⟨_, by conv => lhs; whnf; arg 2; whnf, ?_⟩; conv => rhs; whnf)
    | exact trivial
    | intro hg)
  all_goals
    clear h1 h2 he e
    have hT : ((d.f 2).s.toList == ({ data := #[] } : ByteArray).toList) = ((d.f 2).s.data.toList == []) := str_is _ []
    simp only [hT] at *
    clear hT
    generalize ((d.f 2).s.data.toList == []) = t at *
    generalize nodeB.enumB (d.f 2).s = x at *
    generalize decide (strsL d).Nodup = y at *
    generalize (d.f 4).l.length = a at *
    generalize (d.f 3).l.length = b at *
    generalize (d.f 1).n = i at *
    refine congrArg (fun b => V.c (.bool b)) ?_
    unfold nodeC
    simp_all
  all_goals try (intros; omega)
set_option maxRecDepth 100000 in
theorem node_ac3 (d : D) (hk : (d.f 4).l.length ≤ 1000000000) (hs : (d.f 2).s.size ≤ 1000000000) (hn : (d.f 0).n = 3) : AC EN5 Tryd.prog 76 [.agg (cellsV Tryd.prog 12 39 d), .c (.bool false)] (.c (.bool (nodeB d))) := by
  have h1 := nameP_ac (d.f 2).s hs
  have h2 := twice_ac (d.f 4).l hk
  rw [twice_strs] at h2
  have e : cellsV Tryd.prog 12 39 d = [.c (.int .i64 (d.f 0).n), .c (.int .i64 (d.f 1).n), .c (.string (d.f 2).s), .sl 39 (d.f 3).l, .sl 9 (d.f 4).l] := rfl
  rw [node_C, e, hn]
  refine ac_enter 137 Tryd.func76 rfl rfl rfl rfl ?_
  intro s w he
  repeat' (first
    | (apply s_wanted_pick_t rfl rfl rfl
       · conv => lhs; whnf
       · first | rfl | assumption
       · conv => lhs; whnf
       · first | exact bT1 (by assumption) | exact bT2 (by assumption) | rfl)
    | (apply s_wpick_t rfl rfl rfl
       · conv => lhs; whnf
       · first | rfl | assumption
       · conv => lhs; whnf
       · first | exact bT1 (by assumption) | exact bT2 (by assumption) | rfl)
    | (apply s_wanted_pick_f rfl rfl rfl
       · conv => lhs; whnf
       · first | rfl | assumption
       · conv => lhs; whnf
       · first | exact bF1 (by assumption) | exact bF2 (by assumption) | rfl)
    | (apply s_wpick_f rfl rfl rfl
       · conv => lhs; whnf
       · first | rfl | assumption
       · conv => lhs; whnf
       · first | exact bF1 (by assumption) | exact bF2 (by assumption) | rfl)
    | refine aw_seq ?_
    | refine aw_region ?_
    | refine awo_nil ?_
    | refine k_seq ?_
    | refine k_block ?_
    | refine k_scope ?_
    | refine aw_block ?_
    | refine aw_skip ?_
    | refine aw_label ?_
    | refine aw_scope ?_
    | (apply s_pick_t rfl rfl
       · conv => lhs; whnf
       · conv => lhs; whnf
       · first | exact bT1 (by assumption) | exact bT2 (by assumption))
    | (apply s_pick_f rfl rfl
       · conv => lhs; whnf
       · conv => lhs; whnf
       · first | exact bF1 (by assumption) | exact bF2 (by assumption))
    | (apply s_val rfl
       · conv => lhs; whnf
       · conv => lhs; whnf; arg 2; whnf)
    | (apply s_call rfl
       · conv => lhs; whnf
       · conv => lhs; whnf
       · first | exact h1 | exact h2)
    | (apply s_box rfl rfl rfl rfl
       · conv => lhs; whnf; arg 1; whnf
       · rfl)
    | (apply s_wanted_val rfl
       · conv => lhs; whnf
       · conv => lhs; whnf
       · first | rfl | assumption
       · conv => lhs; whnf; arg 2; whnf)
    | (apply s_wanted_call rfl
       · conv => lhs; whnf
       · conv => lhs; whnf
       · first | rfl | assumption
       · conv => lhs; whnf
       · first | exact h1 | exact h2)
    | (apply s_skipU rfl
       · conv => lhs; whnf
       · conv => lhs; whnf
       · first | rfl | assumption)
    | (apply s_dead rfl
       · conv => lhs; whnf
       · rfl
       · rfl)
    | (apply s_guard_valU rfl
       · conv => lhs; whnf
       · conv => lhs; whnf
       · conv => lhs; whnf; arg 2; whnf)
    | (apply s_guard_callU rfl
       · conv => lhs; whnf
       · conv => lhs; whnf
       · conv => lhs; whnf
       · first | exact h1 | exact h2)
    | (apply s_guard_val rfl
       · conv => lhs; whnf
       · conv => lhs; whnf
       · conv => lhs; whnf; arg 2; whnf)
    | (apply s_guard_call rfl
       · conv => lhs; whnf
       · conv => lhs; whnf
       · conv => lhs; whnf
       · first | exact h1 | exact h2)
    | (apply aw_cond_t
       · conv => lhs; whnf; arg 1; arg 1; whnf)
    | (apply aw_cond_f
       · conv => lhs; whnf; arg 1; arg 1; whnf)
    | (refine aw_cond (by conv => lhs; whnf) ?_ ?_ <;> intro hb)
    | refine aw_ret ?_
    | refine aw_exit ?_
    | refine k_seq_exit ?_
    | refine k_seq_ret ?_
    | refine k_block_ret ?_
    | refine k_block_hit rfl ?_
    | refine k_block_miss rfl ?_
    | refine k_scope_exit ?_
    | refine k_scope_ret ?_
    | refine k_loop_exit ?_
    | refine k_loop_ret ?_
    | refine k_end ?_
    | refine k_end_ret ?_
    | (refine ⟨_, by conv => lhs; whnf; arg 2; whnf, ?_⟩; conv => rhs; whnf)
    | exact trivial
    | intro hg)
  all_goals
    clear h1 h2 he e
    have hT : ((d.f 2).s.toList == ({ data := #[] } : ByteArray).toList) = ((d.f 2).s.data.toList == []) := str_is _ []
    simp only [hT] at *
    clear hT
    generalize ((d.f 2).s.data.toList == []) = t at *
    generalize nodeB.enumB (d.f 2).s = x at *
    generalize decide (strsL d).Nodup = y at *
    generalize (d.f 4).l.length = a at *
    generalize (d.f 3).l.length = b at *
    generalize (d.f 1).n = i at *
    refine congrArg (fun b => V.c (.bool b)) ?_
    unfold nodeC
    simp_all
  all_goals try (intros; omega)
set_option maxRecDepth 100000 in
theorem node_ac5 (d : D) (hk : (d.f 4).l.length ≤ 1000000000) (hs : (d.f 2).s.size ≤ 1000000000) (hn : (d.f 0).n = 5) : AC EN5 Tryd.prog 76 [.agg (cellsV Tryd.prog 12 39 d), .c (.bool false)] (.c (.bool (nodeB d))) := by
  have h1 := nameP_ac (d.f 2).s hs
  have h2 := twice_ac (d.f 4).l hk
  rw [twice_strs] at h2
  have e : cellsV Tryd.prog 12 39 d = [.c (.int .i64 (d.f 0).n), .c (.int .i64 (d.f 1).n), .c (.string (d.f 2).s), .sl 39 (d.f 3).l, .sl 9 (d.f 4).l] := rfl
  rw [node_C, e, hn]
  refine ac_enter 137 Tryd.func76 rfl rfl rfl rfl ?_
  intro s w he
  repeat' (first
    | (apply s_wanted_pick_t rfl rfl rfl
       · conv => lhs; whnf
       · first | rfl | assumption
       · conv => lhs; whnf
       · first | exact bT1 (by assumption) | exact bT2 (by assumption) | rfl)
    | (apply s_wpick_t rfl rfl rfl
       · conv => lhs; whnf
       · first | rfl | assumption
       · conv => lhs; whnf
       · first | exact bT1 (by assumption) | exact bT2 (by assumption) | rfl)
    | (apply s_wanted_pick_f rfl rfl rfl
       · conv => lhs; whnf
       · first | rfl | assumption
       · conv => lhs; whnf
       · first | exact bF1 (by assumption) | exact bF2 (by assumption) | rfl)
    | (apply s_wpick_f rfl rfl rfl
       · conv => lhs; whnf
       · first | rfl | assumption
       · conv => lhs; whnf
       · first | exact bF1 (by assumption) | exact bF2 (by assumption) | rfl)
    | refine aw_seq ?_
    | refine aw_region ?_
    | refine awo_nil ?_
    | refine k_seq ?_
    | refine k_block ?_
    | refine k_scope ?_
    | refine aw_block ?_
    | refine aw_skip ?_
    | refine aw_label ?_
    | refine aw_scope ?_
    | (apply s_pick_t rfl rfl
       · conv => lhs; whnf
       · conv => lhs; whnf
       · first | exact bT1 (by assumption) | exact bT2 (by assumption))
    | (apply s_pick_f rfl rfl
       · conv => lhs; whnf
       · conv => lhs; whnf
       · first | exact bF1 (by assumption) | exact bF2 (by assumption))
    | (apply s_val rfl
       · conv => lhs; whnf
       · conv => lhs; whnf; arg 2; whnf)
    | (apply s_call rfl
       · conv => lhs; whnf
       · conv => lhs; whnf
       · first | exact h1 | exact h2)
    | (apply s_box rfl rfl rfl rfl
       · conv => lhs; whnf; arg 1; whnf
       · rfl)
    | (apply s_wanted_val rfl
       · conv => lhs; whnf
       · conv => lhs; whnf
       · first | rfl | assumption
       · conv => lhs; whnf; arg 2; whnf)
    | (apply s_wanted_call rfl
       · conv => lhs; whnf
       · conv => lhs; whnf
       · first | rfl | assumption
       · conv => lhs; whnf
       · first | exact h1 | exact h2)
    | (apply s_skipU rfl
       · conv => lhs; whnf
       · conv => lhs; whnf
       · first | rfl | assumption)
    | (apply s_dead rfl
       · conv => lhs; whnf
       · rfl
       · rfl)
    | (apply s_guard_valU rfl
       · conv => lhs; whnf
       · conv => lhs; whnf
       · conv => lhs; whnf; arg 2; whnf)
    | (apply s_guard_callU rfl
       · conv => lhs; whnf
       · conv => lhs; whnf
       · conv => lhs; whnf
       · first | exact h1 | exact h2)
    | (apply s_guard_val rfl
       · conv => lhs; whnf
       · conv => lhs; whnf
       · conv => lhs; whnf; arg 2; whnf)
    | (apply s_guard_call rfl
       · conv => lhs; whnf
       · conv => lhs; whnf
       · conv => lhs; whnf
       · first | exact h1 | exact h2)
    | (apply aw_cond_t
       · conv => lhs; whnf; arg 1; arg 1; whnf)
    | (apply aw_cond_f
       · conv => lhs; whnf; arg 1; arg 1; whnf)
    | (refine aw_cond (by conv => lhs; whnf) ?_ ?_ <;> intro hb)
    | refine aw_ret ?_
    | refine aw_exit ?_
    | refine k_seq_exit ?_
    | refine k_seq_ret ?_
    | refine k_block_ret ?_
    | refine k_block_hit rfl ?_
    | refine k_block_miss rfl ?_
    | refine k_scope_exit ?_
    | refine k_scope_ret ?_
    | refine k_loop_exit ?_
    | refine k_loop_ret ?_
    | refine k_end ?_
    | refine k_end_ret ?_
    | (refine ⟨_, by conv => lhs; whnf; arg 2; whnf, ?_⟩; conv => rhs; whnf)
    | exact trivial
    | intro hg)
  all_goals
    clear h1 h2 he e
    have hT : ((d.f 2).s.toList == ({ data := #[] } : ByteArray).toList) = ((d.f 2).s.data.toList == []) := str_is _ []
    simp only [hT] at *
    clear hT
    generalize ((d.f 2).s.data.toList == []) = t at *
    generalize nodeB.enumB (d.f 2).s = x at *
    generalize decide (strsL d).Nodup = y at *
    generalize (d.f 4).l.length = a at *
    generalize (d.f 3).l.length = b at *
    generalize (d.f 1).n = i at *
    refine congrArg (fun b => V.c (.bool b)) ?_
    unfold nodeC
    simp_all
  all_goals try (intros; omega)
set_option maxRecDepth 100000 in
theorem node_ac6 (d : D) (hk : (d.f 4).l.length ≤ 1000000000) (hs : (d.f 2).s.size ≤ 1000000000) (hn : (d.f 0).n = 6) : AC EN5 Tryd.prog 76 [.agg (cellsV Tryd.prog 12 39 d), .c (.bool false)] (.c (.bool (nodeB d))) := by
  have h1 := nameP_ac (d.f 2).s hs
  have h2 := twice_ac (d.f 4).l hk
  rw [twice_strs] at h2
  have e : cellsV Tryd.prog 12 39 d = [.c (.int .i64 (d.f 0).n), .c (.int .i64 (d.f 1).n), .c (.string (d.f 2).s), .sl 39 (d.f 3).l, .sl 9 (d.f 4).l] := rfl
  rw [node_C, e, hn]
  refine ac_enter 137 Tryd.func76 rfl rfl rfl rfl ?_
  intro s w he
  repeat' (first
    | (apply s_wanted_pick_t rfl rfl rfl
       · conv => lhs; whnf
       · first | rfl | assumption
       · conv => lhs; whnf
       · first | exact bT1 (by assumption) | exact bT2 (by assumption) | rfl)
    | (apply s_wpick_t rfl rfl rfl
       · conv => lhs; whnf
       · first | rfl | assumption
       · conv => lhs; whnf
       · first | exact bT1 (by assumption) | exact bT2 (by assumption) | rfl)
    | (apply s_wanted_pick_f rfl rfl rfl
       · conv => lhs; whnf
       · first | rfl | assumption
       · conv => lhs; whnf
       · first | exact bF1 (by assumption) | exact bF2 (by assumption) | rfl)
    | (apply s_wpick_f rfl rfl rfl
       · conv => lhs; whnf
       · first | rfl | assumption
       · conv => lhs; whnf
       · first | exact bF1 (by assumption) | exact bF2 (by assumption) | rfl)
    | refine aw_seq ?_
    | refine aw_region ?_
    | refine awo_nil ?_
    | refine k_seq ?_
    | refine k_block ?_
    | refine k_scope ?_
    | refine aw_block ?_
    | refine aw_skip ?_
    | refine aw_label ?_
    | refine aw_scope ?_
    | (apply s_pick_t rfl rfl
       · conv => lhs; whnf
       · conv => lhs; whnf
       · first | exact bT1 (by assumption) | exact bT2 (by assumption))
    | (apply s_pick_f rfl rfl
       · conv => lhs; whnf
       · conv => lhs; whnf
       · first | exact bF1 (by assumption) | exact bF2 (by assumption))
    | (apply s_val rfl
       · conv => lhs; whnf
       · conv => lhs; whnf; arg 2; whnf)
    | (apply s_call rfl
       · conv => lhs; whnf
       · conv => lhs; whnf
       · first | exact h1 | exact h2)
    | (apply s_box rfl rfl rfl rfl
       · conv => lhs; whnf; arg 1; whnf
       · rfl)
    | (apply s_wanted_val rfl
       · conv => lhs; whnf
       · conv => lhs; whnf
       · first | rfl | assumption
       · conv => lhs; whnf; arg 2; whnf)
    | (apply s_wanted_call rfl
       · conv => lhs; whnf
       · conv => lhs; whnf
       · first | rfl | assumption
       · conv => lhs; whnf
       · first | exact h1 | exact h2)
    | (apply s_skipU rfl
       · conv => lhs; whnf
       · conv => lhs; whnf
       · first | rfl | assumption)
    | (apply s_dead rfl
       · conv => lhs; whnf
       · rfl
       · rfl)
    | (apply s_guard_valU rfl
       · conv => lhs; whnf
       · conv => lhs; whnf
       · conv => lhs; whnf; arg 2; whnf)
    | (apply s_guard_callU rfl
       · conv => lhs; whnf
       · conv => lhs; whnf
       · conv => lhs; whnf
       · first | exact h1 | exact h2)
    | (apply s_guard_val rfl
       · conv => lhs; whnf
       · conv => lhs; whnf
       · conv => lhs; whnf; arg 2; whnf)
    | (apply s_guard_call rfl
       · conv => lhs; whnf
       · conv => lhs; whnf
       · conv => lhs; whnf
       · first | exact h1 | exact h2)
    | (apply aw_cond_t
       · conv => lhs; whnf; arg 1; arg 1; whnf)
    | (apply aw_cond_f
       · conv => lhs; whnf; arg 1; arg 1; whnf)
    | (refine aw_cond (by conv => lhs; whnf) ?_ ?_ <;> intro hb)
    | refine aw_ret ?_
    | refine aw_exit ?_
    | refine k_seq_exit ?_
    | refine k_seq_ret ?_
    | refine k_block_ret ?_
    | refine k_block_hit rfl ?_
    | refine k_block_miss rfl ?_
    | refine k_scope_exit ?_
    | refine k_scope_ret ?_
    | refine k_loop_exit ?_
    | refine k_loop_ret ?_
    | refine k_end ?_
    | refine k_end_ret ?_
    | (refine ⟨_, by conv => lhs; whnf; arg 2; whnf, ?_⟩; conv => rhs; whnf)
    | exact trivial
    | intro hg)
  all_goals
    clear h1 h2 he e
    have hT : ((d.f 2).s.toList == ({ data := #[] } : ByteArray).toList) = ((d.f 2).s.data.toList == []) := str_is _ []
    simp only [hT] at *
    clear hT
    generalize ((d.f 2).s.data.toList == []) = t at *
    generalize nodeB.enumB (d.f 2).s = x at *
    generalize decide (strsL d).Nodup = y at *
    generalize (d.f 4).l.length = a at *
    generalize (d.f 3).l.length = b at *
    generalize (d.f 1).n = i at *
    refine congrArg (fun b => V.c (.bool b)) ?_
    unfold nodeC
    simp_all
  all_goals try (intros; omega)
set_option maxRecDepth 100000 in
theorem node_ac7 (d : D) (hk : (d.f 4).l.length ≤ 1000000000) (hs : (d.f 2).s.size ≤ 1000000000) (hn : (d.f 0).n = 7) : AC EN5 Tryd.prog 76 [.agg (cellsV Tryd.prog 12 39 d), .c (.bool false)] (.c (.bool (nodeB d))) := by
  have h1 := nameP_ac (d.f 2).s hs
  have h2 := twice_ac (d.f 4).l hk
  rw [twice_strs] at h2
  have e : cellsV Tryd.prog 12 39 d = [.c (.int .i64 (d.f 0).n), .c (.int .i64 (d.f 1).n), .c (.string (d.f 2).s), .sl 39 (d.f 3).l, .sl 9 (d.f 4).l] := rfl
  rw [node_C, e, hn]
  refine ac_enter 137 Tryd.func76 rfl rfl rfl rfl ?_
  intro s w he
  repeat' (first
    | (apply s_wanted_pick_t rfl rfl rfl
       · conv => lhs; whnf
       · first | rfl | assumption
       · conv => lhs; whnf
       · first | exact bT1 (by assumption) | exact bT2 (by assumption) | rfl)
    | (apply s_wpick_t rfl rfl rfl
       · conv => lhs; whnf
       · first | rfl | assumption
       · conv => lhs; whnf
       · first | exact bT1 (by assumption) | exact bT2 (by assumption) | rfl)
    | (apply s_wanted_pick_f rfl rfl rfl
       · conv => lhs; whnf
       · first | rfl | assumption
       · conv => lhs; whnf
       · first | exact bF1 (by assumption) | exact bF2 (by assumption) | rfl)
    | (apply s_wpick_f rfl rfl rfl
       · conv => lhs; whnf
       · first | rfl | assumption
       · conv => lhs; whnf
       · first | exact bF1 (by assumption) | exact bF2 (by assumption) | rfl)
    | refine aw_seq ?_
    | refine aw_region ?_
    | refine awo_nil ?_
    | refine k_seq ?_
    | refine k_block ?_
    | refine k_scope ?_
    | refine aw_block ?_
    | refine aw_skip ?_
    | refine aw_label ?_
    | refine aw_scope ?_
    | (apply s_pick_t rfl rfl
       · conv => lhs; whnf
       · conv => lhs; whnf
       · first | exact bT1 (by assumption) | exact bT2 (by assumption))
    | (apply s_pick_f rfl rfl
       · conv => lhs; whnf
       · conv => lhs; whnf
       · first | exact bF1 (by assumption) | exact bF2 (by assumption))
    | (apply s_val rfl
       · conv => lhs; whnf
       · conv => lhs; whnf; arg 2; whnf)
    | (apply s_call rfl
       · conv => lhs; whnf
       · conv => lhs; whnf
       · first | exact h1 | exact h2)
    | (apply s_box rfl rfl rfl rfl
       · conv => lhs; whnf; arg 1; whnf
       · rfl)
    | (apply s_wanted_val rfl
       · conv => lhs; whnf
       · conv => lhs; whnf
       · first | rfl | assumption
       · conv => lhs; whnf; arg 2; whnf)
    | (apply s_wanted_call rfl
       · conv => lhs; whnf
       · conv => lhs; whnf
       · first | rfl | assumption
       · conv => lhs; whnf
       · first | exact h1 | exact h2)
    | (apply s_skipU rfl
       · conv => lhs; whnf
       · conv => lhs; whnf
       · first | rfl | assumption)
    | (apply s_dead rfl
       · conv => lhs; whnf
       · rfl
       · rfl)
    | (apply s_guard_valU rfl
       · conv => lhs; whnf
       · conv => lhs; whnf
       · conv => lhs; whnf; arg 2; whnf)
    | (apply s_guard_callU rfl
       · conv => lhs; whnf
       · conv => lhs; whnf
       · conv => lhs; whnf
       · first | exact h1 | exact h2)
    | (apply s_guard_val rfl
       · conv => lhs; whnf
       · conv => lhs; whnf
       · conv => lhs; whnf; arg 2; whnf)
    | (apply s_guard_call rfl
       · conv => lhs; whnf
       · conv => lhs; whnf
       · conv => lhs; whnf
       · first | exact h1 | exact h2)
    | (apply aw_cond_t
       · conv => lhs; whnf; arg 1; arg 1; whnf)
    | (apply aw_cond_f
       · conv => lhs; whnf; arg 1; arg 1; whnf)
    | (refine aw_cond (by conv => lhs; whnf) ?_ ?_ <;> intro hb)
    | refine aw_ret ?_
    | refine aw_exit ?_
    | refine k_seq_exit ?_
    | refine k_seq_ret ?_
    | refine k_block_ret ?_
    | refine k_block_hit rfl ?_
    | refine k_block_miss rfl ?_
    | refine k_scope_exit ?_
    | refine k_scope_ret ?_
    | refine k_loop_exit ?_
    | refine k_loop_ret ?_
    | refine k_end ?_
    | refine k_end_ret ?_
    | (refine ⟨_, by conv => lhs; whnf; arg 2; whnf, ?_⟩; conv => rhs; whnf)
    | exact trivial
    | intro hg)
  all_goals
    clear h1 h2 he e
    have hT : ((d.f 2).s.toList == ({ data := #[] } : ByteArray).toList) = ((d.f 2).s.data.toList == []) := str_is _ []
    simp only [hT] at *
    clear hT
    generalize ((d.f 2).s.data.toList == []) = t at *
    generalize nodeB.enumB (d.f 2).s = x at *
    generalize decide (strsL d).Nodup = y at *
    generalize (d.f 4).l.length = a at *
    generalize (d.f 3).l.length = b at *
    generalize (d.f 1).n = i at *
    refine congrArg (fun b => V.c (.bool b)) ?_
    unfold nodeC
    simp_all
  all_goals try (intros; omega)
set_option maxRecDepth 100000 in
theorem node_ac4 (d : D) (hk : (d.f 4).l.length ≤ 1000000000) (hs : (d.f 2).s.size ≤ 1000000000) (hn : (d.f 0).n = 4) : AC EN5 Tryd.prog 76 [.agg (cellsV Tryd.prog 12 39 d), .c (.bool false)] (.c (.bool (nodeB d))) := by
  have h1 := nameP_ac (d.f 2).s hs
  have h2 := twice_ac (d.f 4).l hk
  rw [twice_strs] at h2
  have e : cellsV Tryd.prog 12 39 d = [.c (.int .i64 (d.f 0).n), .c (.int .i64 (d.f 1).n), .c (.string (d.f 2).s), .sl 39 (d.f 3).l, .sl 9 (d.f 4).l] := rfl
  rw [node_C, e, hn]
  refine ac_enter 137 Tryd.func76 rfl rfl rfl rfl ?_
  intro s w he
  repeat' (first
    | (apply s_wanted_pick_t rfl rfl rfl
       · conv => lhs; whnf
       · first | rfl | assumption
       · conv => lhs; whnf
       · first | exact bT1 (by assumption) | exact bT2 (by assumption) | rfl)
    | (apply s_wpick_t rfl rfl rfl
       · conv => lhs; whnf
       · first | rfl | assumption
       · conv => lhs; whnf
       · first | exact bT1 (by assumption) | exact bT2 (by assumption) | rfl)
    | (apply s_wanted_pick_f rfl rfl rfl
       · conv => lhs; whnf
       · first | rfl | assumption
       · conv => lhs; whnf
       · first | exact bF1 (by assumption) | exact bF2 (by assumption) | rfl)
    | (apply s_wpick_f rfl rfl rfl
       · conv => lhs; whnf
       · first | rfl | assumption
       · conv => lhs; whnf
       · first | exact bF1 (by assumption) | exact bF2 (by assumption) | rfl)
    | refine aw_seq ?_
    | refine aw_region ?_
    | refine awo_nil ?_
    | refine k_seq ?_
    | refine k_block ?_
    | refine k_scope ?_
    | refine aw_block ?_
    | refine aw_skip ?_
    | refine aw_label ?_
    | refine aw_scope ?_
    | (apply s_pick_t rfl rfl
       · conv => lhs; whnf
       · conv => lhs; whnf
       · first | exact bT1 (by assumption) | exact bT2 (by assumption))
    | (apply s_pick_f rfl rfl
       · conv => lhs; whnf
       · conv => lhs; whnf
       · first | exact bF1 (by assumption) | exact bF2 (by assumption))
    | (apply s_val rfl
       · conv => lhs; whnf
       · conv => lhs; whnf; arg 2; whnf)
    | (apply s_call rfl
       · conv => lhs; whnf
       · conv => lhs; whnf
       · first | exact h1 | exact h2)
    | (apply s_box rfl rfl rfl rfl
       · conv => lhs; whnf; arg 1; whnf
       · rfl)
    | (apply s_wanted_val rfl
       · conv => lhs; whnf
       · conv => lhs; whnf
       · first | rfl | assumption
       · conv => lhs; whnf; arg 2; whnf)
    | (apply s_wanted_call rfl
       · conv => lhs; whnf
       · conv => lhs; whnf
       · first | rfl | assumption
       · conv => lhs; whnf
       · first | exact h1 | exact h2)
    | (apply s_skipU rfl
       · conv => lhs; whnf
       · conv => lhs; whnf
       · first | rfl | assumption)
    | (apply s_dead rfl
       · conv => lhs; whnf
       · rfl
       · rfl)
    | (apply s_guard_valU rfl
       · conv => lhs; whnf
       · conv => lhs; whnf
       · conv => lhs; whnf; arg 2; whnf)
    | (apply s_guard_callU rfl
       · conv => lhs; whnf
       · conv => lhs; whnf
       · conv => lhs; whnf
       · first | exact h1 | exact h2)
    | (apply s_guard_val rfl
       · conv => lhs; whnf
       · conv => lhs; whnf
       · conv => lhs; whnf; arg 2; whnf)
    | (apply s_guard_call rfl
       · conv => lhs; whnf
       · conv => lhs; whnf
       · conv => lhs; whnf
       · first | exact h1 | exact h2)
    | (apply aw_cond_t
       · conv => lhs; whnf; arg 1; arg 1; whnf)
    | (apply aw_cond_f
       · conv => lhs; whnf; arg 1; arg 1; whnf)
    | (refine aw_cond (by conv => lhs; whnf) ?_ ?_ <;> intro hb)
    | refine aw_ret ?_
    | refine aw_exit ?_
    | refine k_seq_exit ?_
    | refine k_seq_ret ?_
    | refine k_block_ret ?_
    | refine k_block_hit rfl ?_
    | refine k_block_miss rfl ?_
    | refine k_scope_exit ?_
    | refine k_scope_ret ?_
    | refine k_loop_exit ?_
    | refine k_loop_ret ?_
    | refine k_end ?_
    | refine k_end_ret ?_
    | (refine ⟨_, by conv => lhs; whnf; arg 2; whnf, ?_⟩; conv => rhs; whnf)
    | exact trivial
    | intro hg)
  all_goals
    clear h1 h2 he e
    have hT1 : ((d.f 2).s.toList == ({ data := #[116, 114, 117, 101] } : ByteArray).toList) = ((d.f 2).s.data.toList == [116, 114, 117, 101]) := str_is _ _
    have hT2 : ((d.f 2).s.toList == ({ data := #[102, 97, 108, 115, 101] } : ByteArray).toList) = ((d.f 2).s.data.toList == [102, 97, 108, 115, 101]) := str_is _ _
    have hT3 : ((d.f 2).s.toList == ({ data := #[110, 117, 108, 108] } : ByteArray).toList) = ((d.f 2).s.data.toList == [110, 117, 108, 108]) := str_is _ _
    simp only [hT1, hT2, hT3] at *
    clear hT1 hT2 hT3
    unfold nodeB.enumB
    generalize ((d.f 2).s.data.toList == []) = t at *
    generalize ((d.f 2).s.data.toList == [116, 114, 117, 101]) = t1 at *
    generalize ((d.f 2).s.data.toList == [102, 97, 108, 115, 101]) = t2 at *
    generalize ((d.f 2).s.data.toList == [110, 117, 108, 108]) = t3 at *
    generalize nameB (d.f 2).s = x at *
    generalize decide (strsL d).Nodup = y at *
    generalize (d.f 4).l.length = a at *
    generalize (d.f 3).l.length = b at *
    generalize (d.f 1).n = i at *
    refine congrArg (fun b => V.c (.bool b)) ?_
    unfold nodeC
    simp_all
  all_goals try (intros; omega)
set_option maxRecDepth 100000 in
theorem node_acP (d : D) (m : Nat) (hk : (d.f 4).l.length ≤ 1000000000) (hs : (d.f 2).s.size ≤ 1000000000) (hn : (d.f 0).n = Int.ofNat (m + 8)) : AC EN5 Tryd.prog 76 [.agg (cellsV Tryd.prog 12 39 d), .c (.bool false)] (.c (.bool (nodeB d))) := by
  have h1 := nameP_ac (d.f 2).s hs
  have h2 := twice_ac (d.f 4).l hk
  rw [twice_strs] at h2
  have e : cellsV Tryd.prog 12 39 d = [.c (.int .i64 (d.f 0).n), .c (.int .i64 (d.f 1).n), .c (.string (d.f 2).s), .sl 39 (d.f 3).l, .sl 9 (d.f 4).l] := rfl
  rw [node_C, e, hn]
  refine ac_enter 137 Tryd.func76 rfl rfl rfl rfl ?_
  intro s w he
  repeat' (first
    | (apply s_wanted_pick_t rfl rfl rfl
       · conv => lhs; whnf
       · first | rfl | assumption
       · conv => lhs; whnf
       · first | exact bT1 (by assumption) | exact bT2 (by assumption) | rfl)
    | (apply s_wpick_t rfl rfl rfl
       · conv => lhs; whnf
       · first | rfl | assumption
       · conv => lhs; whnf
       · first | exact bT1 (by assumption) | exact bT2 (by assumption) | rfl)
    | (apply s_wanted_pick_f rfl rfl rfl
       · conv => lhs; whnf
       · first | rfl | assumption
       · conv => lhs; whnf
       · first | exact bF1 (by assumption) | exact bF2 (by assumption) | rfl)
    | (apply s_wpick_f rfl rfl rfl
       · conv => lhs; whnf
       · first | rfl | assumption
       · conv => lhs; whnf
       · first | exact bF1 (by assumption) | exact bF2 (by assumption) | rfl)
    | refine aw_seq ?_
    | refine aw_region ?_
    | refine awo_nil ?_
    | refine k_seq ?_
    | refine k_block ?_
    | refine k_scope ?_
    | refine aw_block ?_
    | refine aw_skip ?_
    | refine aw_label ?_
    | refine aw_scope ?_
    | (apply s_pick_t rfl rfl
       · conv => lhs; whnf
       · conv => lhs; whnf
       · first | exact bT1 (by assumption) | exact bT2 (by assumption))
    | (apply s_pick_f rfl rfl
       · conv => lhs; whnf
       · conv => lhs; whnf
       · first | exact bF1 (by assumption) | exact bF2 (by assumption))
    | (apply s_val rfl
       · conv => lhs; whnf
       · conv => lhs; whnf; arg 2; whnf)
    | (apply s_call rfl
       · conv => lhs; whnf
       · conv => lhs; whnf
       · first | exact h1 | exact h2)
    | (apply s_box rfl rfl rfl rfl
       · conv => lhs; whnf; arg 1; whnf
       · rfl)
    | (apply s_wanted_val rfl
       · conv => lhs; whnf
       · conv => lhs; whnf
       · first | rfl | assumption
       · conv => lhs; whnf; arg 2; whnf)
    | (apply s_wanted_call rfl
       · conv => lhs; whnf
       · conv => lhs; whnf
       · first | rfl | assumption
       · conv => lhs; whnf
       · first | exact h1 | exact h2)
    | (apply s_skipU rfl
       · conv => lhs; whnf
       · conv => lhs; whnf
       · first | rfl | assumption)
    | (apply s_dead rfl
       · conv => lhs; whnf
       · rfl
       · rfl)
    | (apply s_guard_valU rfl
       · conv => lhs; whnf
       · conv => lhs; whnf
       · conv => lhs; whnf; arg 2; whnf)
    | (apply s_guard_callU rfl
       · conv => lhs; whnf
       · conv => lhs; whnf
       · conv => lhs; whnf
       · first | exact h1 | exact h2)
    | (apply s_guard_val rfl
       · conv => lhs; whnf
       · conv => lhs; whnf
       · conv => lhs; whnf; arg 2; whnf)
    | (apply s_guard_call rfl
       · conv => lhs; whnf
       · conv => lhs; whnf
       · conv => lhs; whnf
       · first | exact h1 | exact h2)
    | (apply aw_cond_t
       · conv => lhs; whnf; arg 1; arg 1; whnf)
    | (apply aw_cond_f
       · conv => lhs; whnf; arg 1; arg 1; whnf)
    | (refine aw_cond (by conv => lhs; whnf) ?_ ?_ <;> intro hb)
    | refine aw_ret ?_
    | refine aw_exit ?_
    | refine k_seq_exit ?_
    | refine k_seq_ret ?_
    | refine k_block_ret ?_
    | refine k_block_hit rfl ?_
    | refine k_block_miss rfl ?_
    | refine k_scope_exit ?_
    | refine k_scope_ret ?_
    | refine k_loop_exit ?_
    | refine k_loop_ret ?_
    | refine k_end ?_
    | refine k_end_ret ?_
    | (refine ⟨_, by conv => lhs; whnf; arg 2; whnf, ?_⟩; conv => rhs; whnf)
    | exact trivial
    | intro hg)
  all_goals
    refine congrArg (fun b => V.c (.bool b)) ?_
    unfold nodeC
    have hh : ¬ (0 ≤ Int.ofNat (m + 8) ∧ Int.ofNat (m + 8) ≤ 6) := fun h => by have h2 : ((m + 8 : Nat) : Int) ≤ 6 := h.2; omega
    rw [decide_eq_false hh]
    simp only [Bool.and_false, Bool.false_and]
set_option maxRecDepth 100000 in
theorem node_acN (d : D) (m : Nat) (hk : (d.f 4).l.length ≤ 1000000000) (hs : (d.f 2).s.size ≤ 1000000000) (hn : (d.f 0).n = Int.negSucc m) : AC EN5 Tryd.prog 76 [.agg (cellsV Tryd.prog 12 39 d), .c (.bool false)] (.c (.bool (nodeB d))) := by
  have h1 := nameP_ac (d.f 2).s hs
  have h2 := twice_ac (d.f 4).l hk
  rw [twice_strs] at h2
  have e : cellsV Tryd.prog 12 39 d = [.c (.int .i64 (d.f 0).n), .c (.int .i64 (d.f 1).n), .c (.string (d.f 2).s), .sl 39 (d.f 3).l, .sl 9 (d.f 4).l] := rfl
  rw [node_C, e, hn]
  refine ac_enter 137 Tryd.func76 rfl rfl rfl rfl ?_
  intro s w he
  repeat' (first
    | (apply s_wanted_pick_t rfl rfl rfl
       · conv => lhs; whnf
       · first | rfl | assumption
       · conv => lhs; whnf
       · first | exact bT1 (by assumption) | exact bT2 (by assumption) | rfl)
    | (apply s_wpick_t rfl rfl rfl
       · conv => lhs; whnf
       · first | rfl | assumption
       · conv => lhs; whnf
       · first | exact bT1 (by assumption) | exact bT2 (by assumption) | rfl)
    | (apply s_wanted_pick_f rfl rfl rfl
       · conv => lhs; whnf
       · first | rfl | assumption
       · conv => lhs; whnf
       · first | exact bF1 (by assumption) | exact bF2 (by assumption) | rfl)
    | (apply s_wpick_f rfl rfl rfl
       · conv => lhs; whnf
       · first | rfl | assumption
       · conv => lhs; whnf
       · first | exact bF1 (by assumption) | exact bF2 (by assumption) | rfl)
    | refine aw_seq ?_
    | refine aw_region ?_
    | refine awo_nil ?_
    | refine k_seq ?_
    | refine k_block ?_
    | refine k_scope ?_
    | refine aw_block ?_
    | refine aw_skip ?_
    | refine aw_label ?_
    | refine aw_scope ?_
    | (apply s_pick_t rfl rfl
       · conv => lhs; whnf
       · conv => lhs; whnf
       · first | exact bT1 (by assumption) | exact bT2 (by assumption))
    | (apply s_pick_f rfl rfl
       · conv => lhs; whnf
       · conv => lhs; whnf
       · first | exact bF1 (by assumption) | exact bF2 (by assumption))
    | (apply s_val rfl
       · conv => lhs; whnf
       · conv => lhs; whnf; arg 2; whnf)
    | (apply s_call rfl
       · conv => lhs; whnf
       · conv => lhs; whnf
       · first | exact h1 | exact h2)
    | (apply s_box rfl rfl rfl rfl
       · conv => lhs; whnf; arg 1; whnf
       · rfl)
    | (apply s_wanted_val rfl
       · conv => lhs; whnf
       · conv => lhs; whnf
       · first | rfl | assumption
       · conv => lhs; whnf; arg 2; whnf)
    | (apply s_wanted_call rfl
       · conv => lhs; whnf
       · conv => lhs; whnf
       · first | rfl | assumption
       · conv => lhs; whnf
       · first | exact h1 | exact h2)
    | (apply s_skipU rfl
       · conv => lhs; whnf
       · conv => lhs; whnf
       · first | rfl | assumption)
    | (apply s_dead rfl
       · conv => lhs; whnf
       · rfl
       · rfl)
    | (apply s_guard_valU rfl
       · conv => lhs; whnf
       · conv => lhs; whnf
       · conv => lhs; whnf; arg 2; whnf)
    | (apply s_guard_callU rfl
       · conv => lhs; whnf
       · conv => lhs; whnf
       · conv => lhs; whnf
       · first | exact h1 | exact h2)
    | (apply s_guard_val rfl
       · conv => lhs; whnf
       · conv => lhs; whnf
       · conv => lhs; whnf; arg 2; whnf)
    | (apply s_guard_call rfl
       · conv => lhs; whnf
       · conv => lhs; whnf
       · conv => lhs; whnf
       · first | exact h1 | exact h2)
    | (apply aw_cond_t
       · conv => lhs; whnf; arg 1; arg 1; whnf)
    | (apply aw_cond_f
       · conv => lhs; whnf; arg 1; arg 1; whnf)
    | (refine aw_cond (by conv => lhs; whnf) ?_ ?_ <;> intro hb)
    | refine aw_ret ?_
    | refine aw_exit ?_
    | refine k_seq_exit ?_
    | refine k_seq_ret ?_
    | refine k_block_ret ?_
    | refine k_block_hit rfl ?_
    | refine k_block_miss rfl ?_
    | refine k_scope_exit ?_
    | refine k_scope_ret ?_
    | refine k_loop_exit ?_
    | refine k_loop_ret ?_
    | refine k_end ?_
    | refine k_end_ret ?_
    | (refine ⟨_, by conv => lhs; whnf; arg 2; whnf, ?_⟩; conv => rhs; whnf)
    | exact trivial
    | intro hg)
  all_goals
    refine congrArg (fun b => V.c (.bool b)) ?_
    unfold nodeC
    have hh : ¬ (0 ≤ Int.negSucc m ∧ Int.negSucc m ≤ 6) := fun h => by exact absurd h.1 (by intro h9; exact absurd (Int.negSucc_lt_zero m) (by omega))
    rw [decide_eq_false hh]
    simp only [Bool.and_false, Bool.false_and]
set_option maxRecDepth 100000 in
theorem node_ac (d : D) (hk : (d.f 4).l.length ≤ 1000000000) (hs : (d.f 2).s.size ≤ 1000000000) : AC EN5 Tryd.prog 76 [.agg (cellsV Tryd.prog 12 39 d), .c (.bool false)] (.c (.bool (nodeB d))) := by
  cases hn : (d.f 0).n with
  | negSucc m => exact node_acN d m hk hs hn
  | ofNat m =>
    match m, hn with
    | 0, hn => exact node_ac0 d hk hs hn
    | 1, hn => exact node_ac1 d hk hs hn
    | 2, hn => exact node_ac2 d hk hs hn
    | 3, hn => exact node_ac3 d hk hs hn
    | 4, hn => exact node_ac4 d hk hs hn
    | 5, hn => exact node_ac5 d hk hs hn
    | 6, hn => exact node_ac6 d hk hs hn
    | 7, hn => exact node_ac7 d hk hs hn
    | m + 8, hn => exact node_acP d m hk hs hn
end Go.Proofs.YtjhjleanihgopaaDoor
namespace Go.Proofs.YtjhjleanihgopaaDoor
open Go.RowKit
attribute [local irreducible] wpList Calls Code.wp AW AWo OpOk seqK blockK scopeK loopK endK endKB AC ACB absLex absLexG Yld YldG Sub
def litB : Res := .box 4 [.c (.bool false)]
set_option maxRecDepth 100000 in
theorem every1_acb (x : D) (b : Bool) (h : AC EN5 Tryd.prog 46 [.agg (cellsV Tryd.prog 12 39 x), .c (.bool false)] (.c (.bool b))) :
    ACB EN5 Tryd.prog 78 [.agg (cellsV Tryd.prog 12 39 x), .bx (pn 0) 0] [litB] (.c (.bool (!b))) [litB] := by
  refine acb_enter (fn := Tryd.f78) 8 Tryd.func78 rfl rfl ?_
  intro pas w0 w he hpp
  repeat' (first
    | refine aw_seq ?_
    | refine aw_region ?_
    | refine awo_nil ?_
    | refine k_seq ?_
    | refine k_block ?_
    | refine k_scope ?_
    | refine aw_block ?_
    | refine aw_skip ?_
    | refine aw_label ?_
    | refine aw_scope ?_
    | (apply s_val rfl
       · conv => lhs; whnf
       · conv => lhs; whnf; arg 2; whnf)
    | (apply s_call rfl
       · conv => lhs; whnf
       · conv => lhs; whnf
       · first | exact h)
    | (apply s_box rfl rfl rfl rfl
       · conv => lhs; whnf; arg 1; whnf
       · rfl)
    | (apply aw_cond_t
       · conv => lhs; whnf; arg 1; arg 1; whnf)
    | (apply aw_cond_f
       · conv => lhs; whnf; arg 1; arg 1; whnf)
    | (refine aw_cond (by conv => lhs; whnf) ?_ ?_ <;> intro hb)
    | refine aw_ret ?_
    | refine aw_exit ?_
    | refine k_seq_exit ?_
    | refine k_seq_ret ?_
    | refine k_block_ret ?_
    | refine k_block_hit rfl ?_
    | refine k_block_miss rfl ?_
    | refine k_scope_exit ?_
    | refine k_scope_ret ?_
    | refine k_loop_exit ?_
    | refine k_loop_ret ?_
    | refine k_endB ⟨?_, ?_⟩
    | refine k_endB_ret ⟨?_, ?_⟩
    | exact (rfl : _ = V.tup [])
    | (refine ⟨_, by conv => lhs; whnf; arg 2; whnf, ?_⟩; conv => rhs; whnf)
    | exact trivial
    | intro hg)
  exact ⟨rfl, trivial⟩
def idxF (l : List D) (p : D → Bool) : Int := match l.findIdx? p with | some i => (i : Int) | none => -1
set_option maxRecDepth 100000 in
theorem idxF_at {l : List D} {p : D → Bool} {i : Nat} (hi : i < l.length) (h : ∀ m, m < i → p (gD l m) = false) (he : p (gD l i) = true) : idxF l p = i := by
  unfold idxF
  have : l.findIdx? p = some i := by
    rw [List.findIdx?_eq_some_iff_getElem]
    exact ⟨hi, by rw [← gD_get hi]; exact he, fun j hj => by rw [← gD_get (by omega), h j hj]; decide⟩
  rw [this]
set_option maxRecDepth 100000 in
theorem idxF_no {l : List D} {p : D → Bool} (h : ∀ m, m < l.length → p (gD l m) = false) : idxF l p = -1 := by
  unfold idxF
  have : l.findIdx? p = none := by
    rw [List.findIdx?_eq_none_iff]
    intro x hx
    obtain ⟨i, hi, e⟩ := List.getElem_of_mem hx
    rw [← e, ← gD_get hi]; exact h i hi
  rw [this]
set_option maxRecDepth 100000 in
theorem idxF_any (l : List D) (p : D → Bool) : decide (idxF l p ≥ 0) = l.any p := by
  unfold idxF
  cases h : l.findIdx? p with
  | none =>
    rw [List.findIdx?_eq_none_iff] at h
    have : l.any p = false := by rw [List.any_eq_false]; intro x hx; rw [h x hx]; decide
    rw [this]; rfl
  | some i =>
    rw [List.findIdx?_eq_some_iff_getElem] at h
    obtain ⟨hi, he, _⟩ := h
    have : l.any p = true := List.any_eq_true.2 ⟨_, List.getElem_mem hi, he⟩
    rw [this]
    exact decide_eq_true (Int.natCast_nonneg i)
noncomputable def HiF (l : List D) (i : Nat) : Vst 19 :=
  stS 19 [(0, .sl 39 l), (1, .clo 78 [.bx (pn 0) 0]), (7, .c (.int .i64 l.length)), (8, .c (.int .i64 i))] [(pn 0, litB)]
set_option maxRecDepth 100000 in
theorem indexF_acb (l : List D) (p : D → Bool) (hn : l.length ≤ 1000000000) (hc : ∀ i, i < l.length → ACB EN5 Tryd.prog 78 [.agg (cellsV Tryd.prog 12 39 (gD l i)), .bx (pn 0) 0] [litB] (.c (.bool (p (gD l i)))) [litB]) :
    ACB EN5 Tryd.prog 104 [.sl 39 l, .clo 78 [.bx (pn 0) 0]] [litB] (.c (.int .i64 (idxF l p))) [litB] := by
  refine acb_enter (fn := Tryd.f104) 19 Tryd.func104 rfl rfl ?_
  intro pas w0 w he hpp
  repeat' (first
    | refine aw_seq ?_
    | refine aw_region ?_
    | refine awo_nil ?_
    | refine k_seq ?_
    | refine k_block ?_
    | refine k_scope ?_
    | refine aw_block ?_
    | refine aw_skip ?_
    | refine aw_label ?_
    | refine aw_scope ?_
    | (apply s_val rfl
       · conv => lhs; whnf
       · conv => lhs; whnf; arg 2; whnf)
    | (apply s_call rfl
       · conv => lhs; whnf
       · conv => lhs; whnf
       · first | fail)
    | (apply aw_cond_t
       · conv => lhs; whnf; arg 1; arg 1; whnf)
    | (apply aw_cond_f
       · conv => lhs; whnf; arg 1; arg 1; whnf)
    | (refine aw_cond (by conv => lhs; whnf) ?_ ?_ <;> intro hb)
    | refine aw_ret ?_
    | refine aw_exit ?_
    | refine k_seq_exit ?_
    | refine k_seq_ret ?_
    | refine k_block_ret ?_
    | refine k_block_hit rfl ?_
    | refine k_block_miss rfl ?_
    | refine k_scope_exit ?_
    | refine k_scope_ret ?_
    | refine k_loop_exit ?_
    | refine k_loop_ret ?_
    | refine k_endB ⟨?_, ?_⟩
    | refine k_endB_ret ⟨?_, ?_⟩
    | exact (rfl : _ = V.tup [])
    | (refine ⟨_, by conv => lhs; whnf; arg 2; whnf, ?_⟩; conv => rhs; whnf)
    | exact trivial
    | intro hg)
  refine aw_loop (fun j st => ∃ i, i + j = l.length ∧ (∀ m, m < i → p (gD l m) = false) ∧ Sub ⟨Tryd.prog, pas, w0, w, EN5, he, hpp⟩ st (HiF l i)) l.length ⟨0, by omega, fun m hm => absurd hm (Nat.not_lt_zero m), ?_⟩ ?_
  · exact Sub.live ⟨rfl, rfl, rfl, rfl, trivial⟩ ⟨rfl, trivial⟩
  · rintro j st ⟨i, hij, hno, hs2⟩
    refine aw_sub hs2 ?_
    clear hs2
    have hc2 := fun (h : decide ((i : Int) < (l.length : Int)) = true) => hc i (lt_b h)
    repeat' (first
    | (apply s_guard_box (m := pn 0) rfl
       · conv => lhs; whnf
       · conv => lhs; whnf
       · conv => lhs; whnf
       · rfl
       · conv => lhs; whnf; arg 1; whnf
       · exact fun _ => rfl
       · first | exact hc2 (by assumption)
       · exact fun _ => rfl
       · exact fun _ => rfl)
    | (apply s_box1 (m := pn 0) rfl
       · conv => lhs; whnf
       · conv => lhs; whnf
       · rfl
       · conv => lhs; whnf; arg 1; whnf
       · exact fun _ => rfl
       · first | exact hc2 (by assumption)
       · exact fun _ => rfl
       · exact fun _ => rfl)
    | refine aw_seq ?_
    | refine aw_region ?_
    | refine awo_nil ?_
    | refine k_seq ?_
    | refine k_block ?_
    | refine k_scope ?_
    | refine aw_block ?_
    | refine aw_skip ?_
    | refine aw_label ?_
    | refine aw_scope ?_
    | (apply s_val rfl
       · conv => lhs; whnf
       · conv => lhs; whnf; arg 2; whnf)
    | (apply s_call rfl
       · conv => lhs; whnf
       · conv => lhs; whnf
       · first | fail)
    | (apply aw_cond_t
       · conv => lhs; whnf; arg 1; arg 1; whnf)
    | (apply aw_cond_f
       · conv => lhs; whnf; arg 1; arg 1; whnf)
    | (refine aw_cond (by conv => lhs; whnf) ?_ ?_ <;> intro hb)
    | refine aw_ret ?_
    | refine aw_exit ?_
    | refine k_seq_exit ?_
    | refine k_seq_ret ?_
    | refine k_block_ret ?_
    | refine k_block_hit rfl ?_
    | refine k_block_miss rfl ?_
    | refine k_scope_exit ?_
    | refine k_scope_ret ?_
    | refine k_loop_exit ?_
    | refine k_loop_ret ?_
    | refine k_endB ⟨?_, ?_⟩
    | refine k_endB_ret ⟨?_, ?_⟩
    | exact (rfl : _ = V.tup [])
    | (refine ⟨_, by conv => lhs; whnf; arg 2; whnf, ?_⟩; conv => rhs; whnf)
    | exact trivial
    | intro hg)
    all_goals
      first
        | (have g0 := lt_b (i := i) (n := l.length) (by assumption)
           first
             | exact i64_in2 (by omega)
             | exact ixn_ok g0
             | (have g1 : p (gD l i) = true := by assumption
                first
                  | (show V.c _ = V.c _; rw [idxF_at g0 hno g1])
                  | exact ⟨rfl, trivial⟩)
             | (have g1 : p (gD l i) = false := by assumption
                refine k_loop_next (j' := j - 1) (by omega) ⟨i + 1, by omega, fun m hm => ?_, Sub.live ⟨rfl, rfl, rfl, rfl, trivial⟩ ⟨rfl, trivial⟩⟩
                by_cases e : m = i
                · subst e; exact g1
                · exact hno m (by omega)))
        | (have g0 := ge_b (i := i) (n := l.length) (by assumption)
           first
             | (show V.c _ = V.c _; rw [idxF_no fun m hm => hno m (by omega)])
             | exact ⟨rfl, trivial⟩)
set_option maxRecDepth 100000 in
theorem containsF_acb (l : List D) (p : D → Bool) (hn : l.length ≤ 1000000000) (hc : ∀ i, i < l.length → ACB EN5 Tryd.prog 78 [.agg (cellsV Tryd.prog 12 39 (gD l i)), .bx (pn 0) 0] [litB] (.c (.bool (p (gD l i)))) [litB]) :
    ACB EN5 Tryd.prog 77 [.sl 39 l, .clo 78 [.bx (pn 0) 0]] [litB] (.c (.bool (l.any p))) [litB] := by
  have h1 := indexF_acb l p hn hc
  rw [← idxF_any]
  refine acb_enter (fn := Tryd.f77) 9 Tryd.func77 rfl rfl ?_
  intro pas w0 w he hpp
  repeat' (first
    | (apply s_guard_box (m := pn 0) rfl
       · conv => lhs; whnf
       · conv => lhs; whnf
       · conv => lhs; whnf
       · rfl
       · conv => lhs; whnf; arg 1; whnf
       · exact fun _ => rfl
       · first | exact h1
       · exact fun _ => rfl
       · exact fun _ => rfl)
    | (apply s_box1 (m := pn 0) rfl
       · conv => lhs; whnf
       · conv => lhs; whnf
       · rfl
       · conv => lhs; whnf; arg 1; whnf
       · exact fun _ => rfl
       · first | exact h1
       · exact fun _ => rfl
       · exact fun _ => rfl)
    | refine aw_seq ?_
    | refine aw_region ?_
    | refine awo_nil ?_
    | refine k_seq ?_
    | refine k_block ?_
    | refine k_scope ?_
    | refine aw_block ?_
    | refine aw_skip ?_
    | refine aw_label ?_
    | refine aw_scope ?_
    | (apply s_val rfl
       · conv => lhs; whnf
       · conv => lhs; whnf; arg 2; whnf)
    | (apply s_call rfl
       · conv => lhs; whnf
       · conv => lhs; whnf
       · first | fail)
    | (apply aw_cond_t
       · conv => lhs; whnf; arg 1; arg 1; whnf)
    | (apply aw_cond_f
       · conv => lhs; whnf; arg 1; arg 1; whnf)
    | (refine aw_cond (by conv => lhs; whnf) ?_ ?_ <;> intro hb)
    | refine aw_ret ?_
    | refine aw_exit ?_
    | refine k_seq_exit ?_
    | refine k_seq_ret ?_
    | refine k_block_ret ?_
    | refine k_block_hit rfl ?_
    | refine k_block_miss rfl ?_
    | refine k_scope_exit ?_
    | refine k_scope_ret ?_
    | refine k_loop_exit ?_
    | refine k_loop_ret ?_
    | refine k_endB ⟨?_, ?_⟩
    | refine k_endB_ret ⟨?_, ?_⟩
    | exact (rfl : _ = V.tup [])
    | (refine ⟨_, by conv => lhs; whnf; arg 2; whnf, ?_⟩; conv => rhs; whnf)
    | exact trivial
    | intro hg)
  exact ⟨rfl, trivial⟩
set_option maxRecDepth 100000 in
theorem every_ac : ∀ (k : Nat) (d : D), Dp k d → wtJ k d ≤ 1000000000 → AC EN5 Tryd.prog 46 [.agg (cellsV Tryd.prog 12 39 d), .c (.bool false)] (.c (.bool (everyB k d)))
  | 0, _, h, _ => h.elim
  | k + 1, d, h, hw => by
    have hin := wt_in h hw
    have hnode := node_ac d (by have := hin.keys; omega) (by have := hin.text; omega)
    have hc := containsF_acb (d.f 3).l (fun x => !everyB k x) (by have := hin.items; omega) fun i hi => every1_acb _ _ (every_ac k _ (h i hi) (hin.at_ i hi))
    have e : everyB (k + 1) d = (nodeB d && !((d.f 3).l.any fun x => !everyB k x)) := by
      show (nodeB d && (List.range (d.f 3).l.length).all fun i => everyB k (gD (d.f 3).l i)) = _
      congr 1
      rw [Bool.eq_iff_iff, List.all_eq_true]
      simp only [Bool.not_eq_true', List.any_eq_false]
      constructor
      · intro hh x hx
        obtain ⟨i, hi, rfl⟩ := List.getElem_of_mem hx
        have := hh i (List.mem_range.2 hi)
        rw [gD_get hi] at this
        simp [this]
      · intro hh i hi
        have := hh _ (gD_mem (List.mem_range.1 hi))
        simpa using this
    rw [e]
    refine ac_enter 15 Tryd.func46 rfl rfl rfl rfl ?_
    intro s w he
    repeat' (first
    | (apply s_guard_box (m := 3) rfl
       · conv => lhs; whnf
       · conv => lhs; whnf
       · conv => lhs; whnf
       · rfl
       · conv => lhs; whnf; arg 1; whnf
       · exact fun _ => rfl
       · first | exact hc
       · exact fun _ => rfl
       · exact fun _ => rfl)
    | (apply s_box1 (m := 3) rfl
       · conv => lhs; whnf
       · conv => lhs; whnf
       · rfl
       · conv => lhs; whnf; arg 1; whnf
       · exact fun _ => rfl
       · first | exact hc
       · exact fun _ => rfl
       · exact fun _ => rfl)
    | refine aw_seq ?_
    | refine aw_region ?_
    | refine awo_nil ?_
    | refine k_seq ?_
    | refine k_block ?_
    | refine k_scope ?_
    | refine aw_block ?_
    | refine aw_skip ?_
    | refine aw_label ?_
    | refine aw_scope ?_
    | (apply s_pick_t rfl rfl
       · conv => lhs; whnf
       · conv => lhs; whnf
       · first | exact bT1 (by assumption) | exact bT2 (by assumption))
    | (apply s_pick_f rfl rfl
       · conv => lhs; whnf
       · conv => lhs; whnf
       · first | exact bF1 (by assumption) | exact bF2 (by assumption))
    | (apply s_val rfl
       · conv => lhs; whnf
       · conv => lhs; whnf; arg 2; whnf)
    | (apply s_call rfl
       · conv => lhs; whnf
       · conv => lhs; whnf
       · first | exact hnode)
    | (apply s_box rfl rfl rfl rfl
       · conv => lhs; whnf; arg 1; whnf
       · rfl)
    | (apply s_wanted_val rfl
       · conv => lhs; whnf
       · conv => lhs; whnf
       · first | rfl | assumption
       · conv => lhs; whnf; arg 2; whnf)
    | (apply s_wanted_call rfl
       · conv => lhs; whnf
       · conv => lhs; whnf
       · first | rfl | assumption
       · conv => lhs; whnf
       · first | exact hnode)
    | (apply s_skipU rfl
       · conv => lhs; whnf
       · conv => lhs; whnf
       · first | rfl | assumption)
    | (apply s_dead rfl
       · conv => lhs; whnf
       · rfl
       · rfl)
    | (apply s_guard_valU rfl
       · conv => lhs; whnf
       · conv => lhs; whnf
       · conv => lhs; whnf; arg 2; whnf)
    | (apply s_guard_callU rfl
       · conv => lhs; whnf
       · conv => lhs; whnf
       · conv => lhs; whnf
       · first | exact hnode)
    | (apply s_guard_val rfl
       · conv => lhs; whnf
       · conv => lhs; whnf
       · conv => lhs; whnf; arg 2; whnf)
    | (apply s_guard_call rfl
       · conv => lhs; whnf
       · conv => lhs; whnf
       · conv => lhs; whnf
       · first | exact hnode)
    | (apply aw_cond_t
       · conv => lhs; whnf; arg 1; arg 1; whnf)
    | (apply aw_cond_f
       · conv => lhs; whnf; arg 1; arg 1; whnf)
    | (refine aw_cond (by conv => lhs; whnf) ?_ ?_ <;> intro hb)
    | refine aw_ret ?_
    | refine aw_exit ?_
    | refine k_seq_exit ?_
    | refine k_seq_ret ?_
    | refine k_block_ret ?_
    | refine k_block_hit rfl ?_
    | refine k_block_miss rfl ?_
    | refine k_scope_exit ?_
    | refine k_scope_ret ?_
    | refine k_loop_exit ?_
    | refine k_loop_ret ?_
    | refine k_end ?_
    | refine k_end_ret ?_
    | (refine ⟨_, by conv => lhs; whnf; arg 2; whnf, ?_⟩; conv => rhs; whnf)
    | exact trivial
    | intro hg)
    all_goals
      clear hnode hc he e
      generalize nodeB d = b at *
      generalize ((d.f 3).l.any fun x => !everyB k x) = c at *
      cases b
      · first
          | rfl
          | (exfalso; simp at *)
      · first
          | rfl
          | (exfalso; simp at *)
def rightB (k : Nat) (d : D) : Bool := decide (sizeJ k d ≤ 4096) && decide (depthJ k d ≤ 24) && everyB k d
set_option maxRecDepth 100000 in
theorem right_ac (k : Nat) (d : D) (h : Dp k d) (hw : wtJ k d ≤ 1000000000) : AC EN5 Tryd.prog 23 [.agg (cellsV Tryd.prog 12 39 d)] (.c (.bool (rightB k d))) := by
  have h1 := size_ac k d h hw
  have h2 := depth_ac k d h hw
  have h3 := every_ac k d h hw
  unfold rightB
  refine ac_enter 15 Tryd.func23 rfl rfl rfl rfl ?_
  intro s w he
  repeat' (first
    | (apply s_wanted_pick_t rfl rfl rfl
       · conv => lhs; whnf
       · first | rfl | assumption
       · conv => lhs; whnf
       · first | exact bT1 (by assumption) | exact bT2 (by assumption) | rfl)
    | (apply s_wpick_t rfl rfl rfl
       · conv => lhs; whnf
       · first | rfl | assumption
       · conv => lhs; whnf
       · first | exact bT1 (by assumption) | exact bT2 (by assumption) | rfl)
    | (apply s_wanted_pick_f rfl rfl rfl
       · conv => lhs; whnf
       · first | rfl | assumption
       · conv => lhs; whnf
       · first | exact bF1 (by assumption) | exact bF2 (by assumption) | rfl)
    | (apply s_wpick_f rfl rfl rfl
       · conv => lhs; whnf
       · first | rfl | assumption
       · conv => lhs; whnf
       · first | exact bF1 (by assumption) | exact bF2 (by assumption) | rfl)
    | refine aw_seq ?_
    | refine aw_region ?_
    | refine awo_nil ?_
    | refine k_seq ?_
    | refine k_block ?_
    | refine k_scope ?_
    | refine aw_block ?_
    | refine aw_skip ?_
    | refine aw_label ?_
    | refine aw_scope ?_
    | (apply s_pick_t rfl rfl
       · conv => lhs; whnf
       · conv => lhs; whnf
       · first | exact bT1 (by assumption) | exact bT2 (by assumption))
    | (apply s_pick_f rfl rfl
       · conv => lhs; whnf
       · conv => lhs; whnf
       · first | exact bF1 (by assumption) | exact bF2 (by assumption))
    | (apply s_val rfl
       · conv => lhs; whnf
       · conv => lhs; whnf; arg 2; whnf)
    | (apply s_call rfl
       · conv => lhs; whnf
       · conv => lhs; whnf
       · first | exact h1 | exact h2 | exact h3)
    | (apply s_box rfl rfl rfl rfl
       · conv => lhs; whnf; arg 1; whnf
       · rfl)
    | (apply s_wanted_val rfl
       · conv => lhs; whnf
       · conv => lhs; whnf
       · first | rfl | assumption
       · conv => lhs; whnf; arg 2; whnf)
    | (apply s_wanted_call rfl
       · conv => lhs; whnf
       · conv => lhs; whnf
       · first | rfl | assumption
       · conv => lhs; whnf
       · first | exact h1 | exact h2 | exact h3)
    | (apply s_skipU rfl
       · conv => lhs; whnf
       · conv => lhs; whnf
       · first | rfl | assumption)
    | (apply s_dead rfl
       · conv => lhs; whnf
       · rfl
       · rfl)
    | (apply s_guard_valU rfl
       · conv => lhs; whnf
       · conv => lhs; whnf
       · conv => lhs; whnf; arg 2; whnf)
    | (apply s_guard_callU rfl
       · conv => lhs; whnf
       · conv => lhs; whnf
       · conv => lhs; whnf
       · first | exact h1 | exact h2 | exact h3)
    | (apply s_guard_val rfl
       · conv => lhs; whnf
       · conv => lhs; whnf
       · conv => lhs; whnf; arg 2; whnf)
    | (apply s_guard_call rfl
       · conv => lhs; whnf
       · conv => lhs; whnf
       · conv => lhs; whnf
       · first | exact h1 | exact h2 | exact h3)
    | (apply aw_cond_t
       · conv => lhs; whnf; arg 1; arg 1; whnf)
    | (apply aw_cond_f
       · conv => lhs; whnf; arg 1; arg 1; whnf)
    | (refine aw_cond (by conv => lhs; whnf) ?_ ?_ <;> intro hb)
    | refine aw_ret ?_
    | refine aw_exit ?_
    | refine k_seq_exit ?_
    | refine k_seq_ret ?_
    | refine k_block_ret ?_
    | refine k_block_hit rfl ?_
    | refine k_block_miss rfl ?_
    | refine k_scope_exit ?_
    | refine k_scope_ret ?_
    | refine k_loop_exit ?_
    | refine k_loop_ret ?_
    | refine k_end ?_
    | refine k_end_ret ?_
    | (refine ⟨_, by conv => lhs; whnf; arg 2; whnf, ?_⟩; conv => rhs; whnf)
    | exact trivial
    | intro hg)
  all_goals
    clear h1 h2 h3 he
    refine congrArg (fun b => V.c (.bool b)) ?_
    have e1 : decide ((sizeJ k d : Int) ≤ 4096) = decide (sizeJ k d ≤ 4096) := decide_eq_decide.2 (by omega)
    have e2 : decide ((depthJ k d : Int) ≤ 24) = decide (depthJ k d ≤ 24) := decide_eq_decide.2 (by omega)
    simp only [e1, e2] at *
    generalize decide (sizeJ k d ≤ 4096) = a at *
    generalize decide (depthJ k d ≤ 24) = b at *
    simp_all
end Go.Proofs.YtjhjleanihgopaaDoor
namespace Go.Proofs.YtjhjleanihgopaaDoor
open Go.RowKit
attribute [local irreducible] wpList Calls Code.wp AW AWo OpOk seqK blockK scopeK loopK endK endKB AC ACB absLex absLexG Yld YldG Sub
def kdS (d : D) : Int := if (d.f 0).n = 4 then 3 else (d.f 0).n
def keyS (d : D) (i : Nat) : List D := (List.range i).map fun q => D.str (gD (d.f 4).l q).s
def itS (k : Nat) (d : D) (i : Nat) : List D := (List.range i).map fun q => strsJ k (gD (d.f 3).l q)
set_option maxRecDepth 100000 in
theorem strs_eq (k : Nat) (d : D) : strsJ (k + 1) d = vD (kdS d) (d.f 1).n (d.f 2).s.data.toList (itS k d (d.f 3).l.length) (keyS d (d.f 4).l.length) := by
  show vD (kdS d) (d.f 1).n (d.f 2).s.data.toList (itS k d (d.f 3).l.length) (keysD (strsL d)) = _
  congr 1
  unfold keysD
  rw [strs_range, List.map_map]
  rfl
end Go.Proofs.YtjhjleanihgopaaDoor
namespace Go.Proofs.YtjhjleanihgopaaDoor
open Go.RowKit
attribute [local irreducible] wpList Calls Code.wp AW AWo OpOk seqK blockK scopeK loopK endK endKB AC ACB absLex absLexG Yld YldG Sub
def xI : D := vD 2 1 [] [] []
def xN : D := vD 0 0 [] [] []
def xL : D := vD 5 0 [] [xI, xN] []
def xE : D := vD 4 0 [82, 69, 68] [] []
def xK : List D := [D.str ⟨#[97]⟩, D.str ⟨#[98]⟩]
def xV : D := .obj [.int 6, .int 0, .str ⟨#[]⟩, .list [xL, xE], .list xK]
def xT : List UInt8 := [123, 34, 97, 34, 58, 91, 49, 44, 110, 117, 108, 108, 93, 44, 34, 98, 34, 58, 34, 82, 69, 68, 34, 125]
set_option maxRecDepth 100000 in
theorem itoa1 : Lib.itoa 1 = [49] := by
  unfold Lib.itoa
  rw [if_neg (by decide)]
  exact dec_small (by decide)
set_option maxRecDepth 100000 in
theorem xI_wr (k : Nat) : wrJ (k + 1) xI = [49] := by
  show leafU xI = _
  rw [leaf2 rfl]; exact itoa1
set_option maxRecDepth 100000 in
theorem xL_wr : wrJ 2 xL = [91, 49, 44, 110, 117, 108, 108, 93] := by
  show [91] ++ (((if 0 < 0 then [44] else []) ++ [] ++ wrJ 1 xI) ++ (((if 0 < 1 then [44] else []) ++ [] ++ wrJ 1 xN) ++ [])) ++ [93] = _
  rw [xI_wr]; rfl
set_option maxRecDepth 100000 in
theorem xV_wr : wrJ 3 xV = xT := by
  show [123] ++ (((if 0 < 0 then [44] else []) ++ (quoteU [97] ++ [58]) ++ wrJ 2 xL) ++ (((if 0 < 1 then [44] else []) ++ (quoteU [98] ++ [58]) ++ wrJ 2 xE) ++ [])) ++ [125] = _
  rw [xL_wr]; rfl
set_option maxRecDepth 100000 in
theorem xV_ok : okJ 3 xV = true := rfl
set_option maxRecDepth 100000 in
theorem xV_dp : Dp 3 xV := by
  intro i hi
  have hi : i < 2 := hi
  match i, hi with
  | 0, _ => intro j hj; have hj : j < 2 := hj; match j, hj with
    | 0, _ => exact fun q hq => absurd hq (Nat.not_lt_zero q)
    | 1, _ => exact fun q hq => absurd hq (Nat.not_lt_zero q)
  | 1, _ => exact fun q hq => absurd hq (Nat.not_lt_zero q)
set_option maxRecDepth 100000 in
theorem xV_int : intsJ 3 xV := by
  refine ⟨r_zero, fun i hi => ?_⟩
  have hi : i < 2 := hi
  match i, hi with
  | 0, _ =>
    refine ⟨r_zero, fun j hj => ?_⟩
    have hj : j < 2 := hj
    match j, hj with
    | 0, _ => exact ⟨by decide, fun q hq => absurd hq (Nat.not_lt_zero q)⟩
    | 1, _ => exact ⟨by decide, fun q hq => absurd hq (Nat.not_lt_zero q)⟩
  | 1, _ => exact ⟨r_zero, fun q hq => absurd hq (Nat.not_lt_zero q)⟩
set_option maxRecDepth 100000 in
theorem xV_print : AC EN5 Tryd.prog 18 [.agg (cellsV Tryd.prog 12 39 xV)] (.tup [.c (.string (bs xT)), .c (.int .i64 0)]) := by
  have h := print_ac 3 xV xV_dp xV_int (by decide)
  unfold printV at h
  rw [if_pos xV_ok, xV_wr] at h
  exact h
def xS : ByteArray := ⟨#[91, 49, 44, 32, 123, 34, 97, 34, 58, 32, 116, 114, 117, 101, 125, 93]⟩
def xS2 : ByteArray := ⟨#[91, 49, 44, 93]⟩
def xW : D := vD 5 0 [] [xI, vD 6 0 [] [vD 1 1 [] [] []] [D.str ⟨#[97]⟩]] []
set_option maxRecDepth 100000 in
theorem xS_parse : parseJ xS.data.toList = .ok xW := by kernel_rfl
set_option maxRecDepth 100000 in
theorem xS2_parse : parseJ xS2.data.toList = .error (1, 3) := by kernel_rfl
set_option maxRecDepth 100000 in
theorem exam3_ac : AC EN5 Tryd.prog 17 [] (.c (.bool true)) := by
  have h1 := xV_print
  have h2 := parseP_ac xS (by decide)
  rw [xS_parse] at h2
  have h3 := parseP_ac xS2 (by decide)
  rw [xS2_parse] at h3
  refine ac_enter 80 Tryd.func17 rfl rfl rfl rfl ?_
  intro s w he
  repeat' (first
    | (apply s_lit xK rfl rfl
       · conv => lhs; whnf
       · first | (conv => lhs; whnf; arg 1; whnf)
       · rfl
       · rfl
       · repeat' (first | exact trivial | apply And.intro | rfl))
    | (apply s_lit [xI, xN] rfl rfl
       · conv => lhs; whnf
       · first | (conv => lhs; whnf; arg 1; whnf)
       · rfl
       · rfl
       · repeat' (first | exact trivial | apply And.intro | rfl))
    | (apply s_lit [xL, xE] rfl rfl
       · conv => lhs; whnf
       · first | (conv => lhs; whnf; arg 1; whnf)
       · rfl
       · rfl
       · repeat' (first | exact trivial | apply And.intro | rfl))
    | (apply s_valW (.agg (cellsV Tryd.prog 12 39 xI)) rfl rfl
       · conv => lhs; whnf; arg 2; whnf
       · repeat' (first | exact VLe.refl _ | exact VLe.nil _ | exact VLe.lit _ _ | apply VLe.agg | apply VLeL.cons | exact VLeL.nil))
    | (apply s_valW (.agg (cellsV Tryd.prog 12 39 xN)) rfl rfl
       · conv => lhs; whnf; arg 2; whnf
       · repeat' (first | exact VLe.refl _ | exact VLe.nil _ | exact VLe.lit _ _ | apply VLe.agg | apply VLeL.cons | exact VLeL.nil))
    | (apply s_valW (.agg (cellsV Tryd.prog 12 39 xL)) rfl rfl
       · conv => lhs; whnf; arg 2; whnf
       · repeat' (first | exact VLe.refl _ | exact VLe.nil _ | exact VLe.lit _ _ | apply VLe.agg | apply VLeL.cons | exact VLeL.nil))
    | (apply s_valW (.agg (cellsV Tryd.prog 12 39 xE)) rfl rfl
       · conv => lhs; whnf; arg 2; whnf
       · repeat' (first | exact VLe.refl _ | exact VLe.nil _ | exact VLe.lit _ _ | apply VLe.agg | apply VLeL.cons | exact VLeL.nil))
    | (apply s_valW (.agg (cellsV Tryd.prog 12 39 xV)) rfl rfl
       · conv => lhs; whnf; arg 2; whnf
       · repeat' (first | exact VLe.refl _ | exact VLe.nil _ | exact VLe.lit _ _ | apply VLe.agg | apply VLeL.cons | exact VLeL.nil))
    | (apply s_wanted_pick_t rfl rfl rfl
       · conv => lhs; whnf
       · first | rfl | assumption
       · conv => lhs; whnf
       · first | exact bT1 (by assumption) | exact bT2 (by assumption) | rfl)
    | (apply s_wpick_t rfl rfl rfl
       · conv => lhs; whnf
       · first | rfl | assumption
       · conv => lhs; whnf
       · first | exact bT1 (by assumption) | exact bT2 (by assumption) | rfl)
    | (apply s_wanted_pick_f rfl rfl rfl
       · conv => lhs; whnf
       · first | rfl | assumption
       · conv => lhs; whnf
       · first | exact bF1 (by assumption) | exact bF2 (by assumption) | rfl)
    | (apply s_wpick_f rfl rfl rfl
       · conv => lhs; whnf
       · first | rfl | assumption
       · conv => lhs; whnf
       · first | exact bF1 (by assumption) | exact bF2 (by assumption) | rfl)
    | refine aw_seq ?_
    | refine aw_region ?_
    | refine awo_nil ?_
    | refine k_seq ?_
    | refine k_block ?_
    | refine k_scope ?_
    | refine aw_block ?_
    | refine aw_skip ?_
    | refine aw_label ?_
    | refine aw_scope ?_
    | (apply s_pick_t rfl rfl
       · conv => lhs; whnf
       · conv => lhs; whnf
       · first | exact bT1 (by assumption) | exact bT2 (by assumption))
    | (apply s_pick_f rfl rfl
       · conv => lhs; whnf
       · conv => lhs; whnf
       · first | exact bF1 (by assumption) | exact bF2 (by assumption))
    | (apply s_val rfl
       · conv => lhs; whnf
       · conv => lhs; whnf; arg 2; whnf)
    | (apply s_call rfl
       · conv => lhs; whnf
       · conv => lhs; whnf
       · first | exact h1 | exact h2 | exact h3)
    | (apply s_alloc rfl rfl rfl rfl
       · conv => lhs; whnf; arg 1; whnf
       · rfl)
    | (apply s_store rfl rfl rfl
       · conv => lhs; whnf
       · conv => lhs; whnf; arg 1; whnf
       · conv => lhs; whnf; arg 1; whnf
       · exact ⟨by kernel_rfl, by kernel_rfl⟩
       · rfl)
    | (apply s_lit0 rfl rfl
       · conv => lhs; whnf
       · first | (conv => lhs; whnf; arg 1; whnf))
    | (apply s_lit1 rfl rfl
       · conv => lhs; whnf
       · first | (conv => lhs; whnf; arg 1; whnf)
       · conv => lhs; whnf; arg 1; whnf
       · rfl
       · rfl)
    | (apply s_wanted_val rfl
       · conv => lhs; whnf
       · conv => lhs; whnf
       · first | rfl | assumption
       · conv => lhs; whnf; arg 2; whnf)
    | (apply s_wanted_call rfl
       · conv => lhs; whnf
       · conv => lhs; whnf
       · first | rfl | assumption
       · conv => lhs; whnf
       · first | exact h1 | exact h2 | exact h3)
    | (apply s_skipU rfl
       · conv => lhs; whnf
       · conv => lhs; whnf
       · first | rfl | assumption)
    | (apply s_dead rfl
       · conv => lhs; whnf
       · rfl
       · rfl)
    | (apply s_guard_valU rfl
       · conv => lhs; whnf
       · conv => lhs; whnf
       · conv => lhs; whnf; arg 2; whnf)
    | (apply s_guard_callU rfl
       · conv => lhs; whnf
       · conv => lhs; whnf
       · conv => lhs; whnf
       · first | exact h1 | exact h2 | exact h3)
    | (apply s_guard_val rfl
       · conv => lhs; whnf
       · conv => lhs; whnf
       · conv => lhs; whnf; arg 2; whnf)
    | (apply s_guard_call rfl
       · conv => lhs; whnf
       · conv => lhs; whnf
       · conv => lhs; whnf
       · first | exact h1 | exact h2 | exact h3)
    | (apply aw_cond_t
       · conv => lhs; whnf; arg 1; arg 1; whnf)
    | (apply aw_cond_f
       · conv => lhs; whnf; arg 1; arg 1; whnf)
    | (refine aw_cond (by conv => lhs; whnf) ?_ ?_ <;> intro hb)
    | refine aw_ret ?_
    | refine aw_exit ?_
    | refine k_seq_exit ?_
    | refine k_seq_ret ?_
    | refine k_block_ret ?_
    | refine k_block_hit rfl ?_
    | refine k_block_miss rfl ?_
    | refine k_scope_exit ?_
    | refine k_scope_ret ?_
    | refine k_loop_exit ?_
    | refine k_loop_ret ?_
    | refine k_end ?_
    | refine k_end_ret ?_
    | (refine ⟨_, by conv => lhs; whnf; arg 2; whnf, ?_⟩; conv => rhs; whnf)
    | exact trivial
    | intro hg)
  · rfl
  · decide
  · decide
  · exact absurd hg (by decide +kernel)
end Go.Proofs.YtjhjleanihgopaaDoor
