/- Parts of a proof, merged by a program (shake.py). -/
import Derived.Lib.IndexLaws
import Derived.Test.YtjhjleanihgopaaDoorR4
set_option linter.unusedVariables false
set_option linter.unusedSimpArgs false
namespace Go.Proofs.YtjhjleanihgopaaDoor
open Go.RowKit
attribute [local irreducible] wpList Calls Code.wp AW AWo OpOk seqK blockK scopeK loopK endK endKB AC ACB absLex absLexG Yld YldG
set_option maxRecDepth 100000 in
theorem numberR_ac (s : ByteArray) (hs : s.size ≤ 281474976710656) : AC EN5 Tryd.prog 99 [.c (.string s)] (numVV s.data.toList) := by
  refine ac_of5 (u := numT (numU s.data.toList)) fun σ w us hus he => ?_
  obtain ⟨rfl, -⟩ := str_arg hus
  exact ⟨fun s' w' => by rw [numT_E]; exact rel_tup2 (rel_i64 numU_range) (rel_i64 numE_range), numberR s w hs⟩
set_option maxRecDepth 100000 in
theorem unquoteR_ac (s : ByteArray) (hs : s.size ≤ 100000) : AC EN5 Tryd.prog 97 [.c (.string s)] (uqVV s.data.toList) := by
  refine ac_of5 (u := uqV (unquoteU s.data.toList)) fun σ w us hus he => ?_
  obtain ⟨rfl, -⟩ := str_arg hus
  exact ⟨fun s' w' => unq_ok hs, unquoteR s w hs⟩
end Go.Proofs.YtjhjleanihgopaaDoor
namespace Go.Proofs.YtjhjleanihgopaaDoor
open Go.RowKit
attribute [local irreducible] wpList Calls Code.wp AW AWo OpOk seqK blockK scopeK loopK endK endKB AC ACB absLex absLexG Yld YldG Sub
section
variable {X : Cx} {nn : Nat} {st : Vst nn} {o : Oper} {ops : Array Oper} {l : List Oper} {d : Option Tmp} {KK : Vst nn → Prop}
set_option maxRecDepth 100000 in
theorem s_wanted_meth {tR : TypeId} {f : FuncId} {m j : Nat} {want b : Bool} {vs az : List V} {x x' : JS} {r : V} {cs : List V} (cl : JS → List V) (hren : ∀ φ x, renL φ (cl x) = cl x) (hg : o.guard = some (j, want)) (hd : o.dst = d) (hb : gval ops st j = some b) (hne : (b == want) = true) (h : act1 X.P st.rs (ev st) o.op = .call f vs) (hv : vs = .bx m 0 :: az)
    (hr : st.rs m = some (.box tR cs)) (hx : cs = cl x) (hc : ACB X.e X.P f (.bx (pn 0) 0 :: az) [.box tR (cl x)] r [.box tR (cl x')]) (haz : ∀ φ, renL φ az = az) (hrr : ∀ φ, renV φ r = r)
    (hK : AWo X ops l ((st.res m (.box tR (cl x'))).put d r) KK) : AWo X ops (o :: l) st KK := by
  subst hv
  subst hx
  refine awo_guard hg hb (fun _ => ?_) fun e => (e (by simpa using hne)).elim
  refine opOk_callB [m] h hc (by simp) (by simp only [renL, renV, φin_one, haz]) (by simp [hr, renR, hren]) ?_
  have e : ([Res.box tR (cl x')].map (renR (φout [m]))) = [Res.box tR (cl x')] := by simp [renR, hren]
  rw [e, resN_one, hrr, hd]
  exact hK
set_option maxRecDepth 100000 in
theorem s_guard_meth {tR : TypeId} {f : FuncId} {m j : Nat} {want b : Bool} {vs az : List V} {x x' : JS} {r : V} {cs : List V} (cl : JS → List V) (hren : ∀ φ x, renL φ (cl x) = cl x) (hg : o.guard = some (j, want)) (hd : o.dst = d) (hb : gval ops st j = some b) (h : act1 X.P st.rs (ev st) o.op = .call f vs) (hv : vs = .bx m 0 :: az)
    (hr : st.rs m = some (.box tR cs)) (hx : cs = cl x) (hc : ACB X.e X.P f (.bx (pn 0) 0 :: az) [.box tR (cl x)] r [.box tR (cl x')]) (haz : ∀ φ, renL φ az = az) (hrr : ∀ φ, renV φ r = r)
    (hK : (b == want) = true → AWo X ops l ((st.res m (.box tR (cl x'))).put d r) KK) (hN : (b == want) = false → AWo X ops l (st.put d (.tup [])) KK) : AWo X ops (o :: l) st KK := by
  cases e : b == want
  · exact s_skipU hg hd hb e (hN e)
  · exact s_wanted_meth cl hren hg hd hb e h hv hr hx hc haz hrr (hK e)
end
/-- the reader's cells -/
def cellsQ (s : ByteArray) (x : JS) : List V := [.c (.string s), .c (.int .i64 (x.p : Int)), .c (.int .i64 (x.m : Int)), .c (.int .i64 x.e), .c (.int .i64 x.bad)]
def boxQ (s : ByteArray) (x : JS) : Res := .box 89 (cellsQ s x)
set_option maxRecDepth 100000 in
theorem etaQ0 (s : ByteArray) (x : JS) : cellsQ s x = cellsQ s x := rfl
set_option maxRecDepth 100000 in
theorem etaQ1 (s : ByteArray) (x : JS) : [V.c (.string s), .c (.int .i64 (x.p : Int)), .c (.int .i64 (x.m : Int)), .c (.int .i64 x.e), .c (.int .i64 x.bad)] = cellsQ s x := rfl
set_option maxRecDepth 100000 in
theorem etaQ2 (s : ByteArray) (x : JS) : [V.c (.string s), .c (.int .i64 ((x.p : Int) + 1)), .c (.int .i64 (x.m : Int)), .c (.int .i64 x.e), .c (.int .i64 x.bad)] = cellsQ s (goS x) := rfl
set_option maxRecDepth 100000 in
theorem etaQ3 (s : ByteArray) (x : JS) : [V.c (.string s), .c (.int .i64 (x.p : Int)), .c (.int .i64 ((x.m : Int) + 1)), .c (.int .i64 x.e), .c (.int .i64 x.bad)] = cellsQ s ⟨x.p, x.m + 1, x.bad, x.e⟩ := rfl
set_option maxRecDepth 100000 in
theorem etaQ6 (s : ByteArray) : V.c (.string s) :: List.map V.c [.int .i64 0, .int .i64 0, .int .i64 0, .int .i64 0] = cellsQ s ⟨0, 0, 0, 0⟩ := rfl
set_option maxRecDepth 100000 in
theorem failQ_acb (s : ByteArray) (x : JS) (q : Nat) (c : Int) : ACB EN5 Tryd.prog 43 [.bx (pn 0) 0, .c (.int .i64 c), .c (.int .i64 (q : Int))] [boxQ s x] (.tup []) [boxQ s (failS x q c)] := by
  refine acb_enter (fn := Tryd.f43) 19 Tryd.func43 rfl rfl ?_
  intro pas w0 w he hp
  repeat' (first
    | refine aw_seq ?_
    | refine aw_region ?_
    | refine awo_nil ?_
    | refine k_seq ?_
    | refine k_block ?_
    | refine k_scope ?_
    | refine aw_block ?_
    | refine aw_skip ?_
    | refine aw_label ?_
    | refine aw_scope ?_
    | (apply s_val rfl
       · conv => lhs; whnf
       · conv => lhs; whnf; arg 2; whnf)
    | (apply s_store rfl rfl rfl
       · conv => lhs; whnf
       · conv => lhs; whnf; arg 1; whnf
       · conv => lhs; whnf; arg 1; whnf
       · exact ⟨by kernel_rfl, by kernel_rfl⟩
       · rfl)
    | (apply aw_cond_t
       · conv => lhs; whnf; arg 1; arg 1; whnf)
    | (apply aw_cond_f
       · conv => lhs; whnf; arg 1; arg 1; whnf)
    | (refine aw_cond (by conv => lhs; whnf) ?_ ?_ <;> intro hb)
    | refine aw_ret ?_
    | refine aw_exit ?_
    | refine k_seq_exit ?_
    | refine k_seq_ret ?_
    | refine k_block_ret ?_
    | refine k_block_hit rfl ?_
    | refine k_block_miss rfl ?_
    | refine k_scope_exit ?_
    | refine k_scope_ret ?_
    | refine k_loop_exit ?_
    | refine k_loop_ret ?_
    | refine k_endB ⟨?_, ?_⟩
    | refine k_endB_ret ⟨?_, ?_⟩
    | exact (rfl : _ = V.tup [])
    | (refine ⟨_, by conv => lhs; whnf; arg 2; whnf, ?_⟩; conv => rhs; whnf)
    | exact trivial
    | intro hg)
  · have h : x.e = 0 := by have h : (x.e == 0) = true := by assumption
                           simpa using h
    refine ⟨?_, trivial⟩
    unfold failS; rw [if_pos h]; rfl
  · have h : ¬ x.e = 0 := by have h : (x.e == 0) = false := by assumption
                             simpa using h
    refine ⟨?_, trivial⟩
    unfold failS; rw [if_neg h]; rfl
set_option maxRecDepth 100000 in
theorem nextQ_acb (s : ByteArray) (x : JS) (hs : s.size ≤ 1000000000) : ACB EN5 Tryd.prog 69 [.bx (pn 0) 0] [boxQ s x] (.c (.int .u8 ((atS s.data.toList x).toNat : Int))) [boxQ s x] := by
  refine acb_enter (fn := Tryd.f69) 22 Tryd.func69 rfl rfl ?_
  intro pas w0 w he hp
  repeat' (first
    | refine aw_seq ?_
    | refine aw_region ?_
    | refine awo_nil ?_
    | refine k_seq ?_
    | refine k_block ?_
    | refine k_scope ?_
    | refine aw_block ?_
    | refine aw_skip ?_
    | refine aw_label ?_
    | refine aw_scope ?_
    | (apply s_val rfl
       · conv => lhs; whnf
       · conv => lhs; whnf; arg 2; whnf)
    | (apply aw_draw (by kernel_rfl) (by kernel_rfl))
    | apply y_nil
    | (apply y_val rfl
       · conv => lhs; whnf
       · conv => lhs; whnf; arg 2; whnf)
    | exact apartB_none
    | exact apartB_nil
    | exact all_nil
    | (show List.all _ _ = true; rfl)
    | (show apartB _ _ = true; rfl)
    | exact ([] : List Nat)
    | exact (1000000 : Nat)
    | (apply aw_cond_t
       · conv => lhs; whnf; arg 1; arg 1; whnf)
    | (apply aw_cond_f
       · conv => lhs; whnf; arg 1; arg 1; whnf)
    | (refine aw_cond (by conv => lhs; whnf) ?_ ?_ <;> intro hb)
    | refine aw_ret ?_
    | refine aw_exit ?_
    | refine k_seq_exit ?_
    | refine k_seq_ret ?_
    | refine k_block_ret ?_
    | refine k_block_hit rfl ?_
    | refine k_block_miss rfl ?_
    | refine k_scope_exit ?_
    | refine k_scope_ret ?_
    | refine k_loop_exit ?_
    | refine k_loop_ret ?_
    | refine k_endB ⟨?_, ?_⟩
    | refine k_endB_ret ⟨?_, ?_⟩
    | exact (rfl : _ = V.tup [])
    | (refine ⟨_, by conv => lhs; whnf; arg 2; whnf, ?_⟩; conv => rhs; whnf)
    | exact trivial
    | intro hg)
  · rfl
  · exact ⟨rfl, trivial⟩
  · refine ⟨by kernel_rfl, by omega, ?_⟩
    have h : decide ((x.p : Int) < (s.size : Int)) = true := by assumption
    simpa using h
  · have h : decide ((x.p : Int) < (s.size : Int)) = false := by assumption
    have h2 : s.size ≤ x.p := by simpa using h
    have e : atS s.data.toList x = 0 := by
      unfold atS
      rw [List.getD_eq_getElem?_getD, List.getElem?_eq_none (by show s.size ≤ _; exact h2)]; rfl
    rw [e]; rfl
  · exact ⟨rfl, trivial⟩
  · show Tryd.prog.underlying 9 = _
    kernel_rfl
set_option maxRecDepth 100000 in
theorem vb {a b : Bool} (h : a = true ↔ b = true) : V.c (.bool a) = V.c (.bool b) := by rw [Bool.eq_iff_iff.2 h]
set_option maxRecDepth 100000 in
theorem digU_i (c : UInt8) : digU c = decide (48 ≤ (c.toNat : Int) ∧ (c.toNat : Int) ≤ 57) := by
  rw [Bool.eq_iff_iff, digU_iff, decide_eq_true_iff]; omega
set_option maxRecDepth 100000 in
theorem hexJ_i (c : UInt8) : hexJ c = (digU c || decide (97 ≤ (c.toNat : Int) ∧ (c.toNat : Int) ≤ 102) || decide (65 ≤ (c.toNat : Int) ∧ (c.toNat : Int) ≤ 70)) := by
  unfold hexJ
  congr 1
  · congr 1
    rw [decide_eq_decide]; omega
  · rw [decide_eq_decide]; omega
set_option maxRecDepth 100000 in
theorem beq_u8 (c : UInt8) (n : Nat) (hn : n < 256) : (c == UInt8.ofNat n) = ((c.toNat : Int) == (n : Int)) := by
  cases h : ((c.toNat : Int) == (n : Int)) with
  | true => rw [u8_eq h hn]; simp
  | false => have := u8_ne2 h hn; simpa using this
set_option maxRecDepth 100000 in
theorem begins_i (c : UInt8) : beginsJ c = (digU c || ((c.toNat : Int) == 45) || ((c.toNat : Int) == 34) || ((c.toNat : Int) == 91) || ((c.toNat : Int) == 123) || ((c.toNat : Int) == 110) || ((c.toNat : Int) == 116) || ((c.toNat : Int) == 102)) := by
  have e1 : (c == 45) = ((c.toNat : Int) == 45) := beq_u8 c 45 (by decide)
  have e2 : (c == 34) = ((c.toNat : Int) == 34) := beq_u8 c 34 (by decide)
  have e3 : (c == 91) = ((c.toNat : Int) == 91) := beq_u8 c 91 (by decide)
  have e4 : (c == 123) = ((c.toNat : Int) == 123) := beq_u8 c 123 (by decide)
  have e5 : (c == 110) = ((c.toNat : Int) == 110) := beq_u8 c 110 (by decide)
  have e6 : (c == 116) = ((c.toNat : Int) == 116) := beq_u8 c 116 (by decide)
  have e7 : (c == 102) = ((c.toNat : Int) == 102) := beq_u8 c 102 (by decide)
  unfold beginsJ
  rw [e1, e2, e3, e4, e5, e6, e7]
set_option maxRecDepth 100000 in
theorem digitQ_ac (c : UInt8) : AC EN5 Tryd.prog 95 [.c (.int .u8 (c.toNat : Int))] (.c (.bool (digU c))) := by
  rw [digU_i]
  refine ac_enter 9 Tryd.func95 rfl rfl rfl rfl ?_
  intro w0 w he
  repeat' (first
    | refine aw_seq ?_
    | refine aw_region ?_
    | refine awo_nil ?_
    | refine k_seq ?_
    | refine k_block ?_
    | refine k_scope ?_
    | refine aw_block ?_
    | refine aw_skip ?_
    | refine aw_label ?_
    | refine aw_scope ?_
    | (apply s_pick_t rfl rfl
       · conv => lhs; whnf
       · conv => lhs; whnf
       · first | exact bT1 (by assumption) | exact bT2 (by assumption))
    | (apply s_pick_f rfl rfl
       · conv => lhs; whnf
       · conv => lhs; whnf
       · first | exact bF1 (by assumption) | exact bF2 (by assumption))
    | (apply s_val rfl
       · conv => lhs; whnf
       · conv => lhs; whnf; arg 2; whnf)
    | (apply s_wanted_val rfl
       · conv => lhs; whnf
       · conv => lhs; whnf
       · first | rfl | assumption
       · conv => lhs; whnf; arg 2; whnf)
    | (apply s_wanted_call rfl
       · conv => lhs; whnf
       · conv => lhs; whnf
       · first | rfl | assumption
       · conv => lhs; whnf
       · first | fail)
    | (apply s_skip rfl
       · conv => lhs; whnf
       · conv => lhs; whnf
       · first | rfl | assumption)
    | (apply s_guard_val rfl
       · conv => lhs; whnf
       · conv => lhs; whnf
       · conv => lhs; whnf; arg 2; whnf)
    | (apply s_guard_call rfl
       · conv => lhs; whnf
       · conv => lhs; whnf
       · conv => lhs; whnf
       · first | fail)
    | (apply aw_cond_t
       · conv => lhs; whnf; arg 1; arg 1; whnf)
    | (apply aw_cond_f
       · conv => lhs; whnf; arg 1; arg 1; whnf)
    | (refine aw_cond (by conv => lhs; whnf) ?_ ?_ <;> intro hb)
    | refine aw_ret ?_
    | refine aw_exit ?_
    | refine k_seq_exit ?_
    | refine k_seq_ret ?_
    | refine k_block_ret ?_
    | refine k_block_hit rfl ?_
    | refine k_block_miss rfl ?_
    | refine k_scope_exit ?_
    | refine k_scope_ret ?_
    | refine k_loop_exit ?_
    | refine k_loop_ret ?_
    | refine k_end ?_
    | refine k_end_ret ?_
    | (refine ⟨_, by conv => lhs; whnf; arg 2; whnf, ?_⟩; conv => rhs; whnf)
    | exact trivial
    | intro hg)
  all_goals
    first
      | (have g : (decide ((c.toNat : Int) ≥ 48) == true) = true := by assumption
         have g := of_decide_eq_true (bq_t g)
         refine vb ?_
         rw [decide_eq_true_iff, decide_eq_true_iff]
         omega)
      | (have g : (decide ((c.toNat : Int) ≥ 48) == true) = false := by assumption
         have g := of_decide_eq_false (bq_f g)
         refine vb ?_
         rw [decide_eq_true_iff]
         exact ⟨fun h => (g h.1).elim, fun h => by cases h⟩)
set_option maxRecDepth 100000 in
theorem hexQ_ac (c : UInt8) : AC EN5 Tryd.prog 120 [.c (.int .u8 (c.toNat : Int))] (.c (.bool (hexJ c))) := by
  have hd := digitQ_ac c
  rw [hexJ_i]
  generalize digU c = b at hd ⊢
  refine ac_enter 21 Tryd.func120 rfl rfl rfl rfl ?_
  intro w0 w he
  repeat' (first
    | (apply s_wanted_pick_t rfl rfl rfl
       · conv => lhs; whnf
       · first | rfl | assumption
       · conv => lhs; whnf
       · first | exact bT1 (by assumption) | exact bT2 (by assumption) | rfl)
    | (apply s_wpick_t rfl rfl rfl
       · conv => lhs; whnf
       · first | rfl | assumption
       · conv => lhs; whnf
       · first | exact bT1 (by assumption) | exact bT2 (by assumption) | rfl)
    | (apply s_wanted_pick_f rfl rfl rfl
       · conv => lhs; whnf
       · first | rfl | assumption
       · conv => lhs; whnf
       · first | exact bF1 (by assumption) | exact bF2 (by assumption) | rfl)
    | (apply s_wpick_f rfl rfl rfl
       · conv => lhs; whnf
       · first | rfl | assumption
       · conv => lhs; whnf
       · first | exact bF1 (by assumption) | exact bF2 (by assumption) | rfl)
    | refine aw_seq ?_
    | refine aw_region ?_
    | refine awo_nil ?_
    | refine k_seq ?_
    | refine k_block ?_
    | refine k_scope ?_
    | refine aw_block ?_
    | refine aw_skip ?_
    | refine aw_label ?_
    | refine aw_scope ?_
    | (apply s_pick_t rfl rfl
       · conv => lhs; whnf
       · conv => lhs; whnf
       · first | exact bT1 (by assumption) | exact bT2 (by assumption))
    | (apply s_pick_f rfl rfl
       · conv => lhs; whnf
       · conv => lhs; whnf
       · first | exact bF1 (by assumption) | exact bF2 (by assumption))
    | (apply s_val rfl
       · conv => lhs; whnf
       · conv => lhs; whnf; arg 2; whnf)
    | (apply s_call rfl
       · conv => lhs; whnf
       · conv => lhs; whnf
       · first | exact hd)
    | (apply s_wanted_val rfl
       · conv => lhs; whnf
       · conv => lhs; whnf
       · first | rfl | assumption
       · conv => lhs; whnf; arg 2; whnf)
    | (apply s_wanted_call rfl
       · conv => lhs; whnf
       · conv => lhs; whnf
       · first | rfl | assumption
       · conv => lhs; whnf
       · first | exact hd)
    | (apply s_skipU rfl
       · conv => lhs; whnf
       · conv => lhs; whnf
       · first | rfl | assumption)
    | (apply s_dead rfl
       · conv => lhs; whnf
       · rfl
       · rfl)
    | (apply s_guard_valU rfl
       · conv => lhs; whnf
       · conv => lhs; whnf
       · conv => lhs; whnf; arg 2; whnf)
    | (apply s_guard_callU rfl
       · conv => lhs; whnf
       · conv => lhs; whnf
       · conv => lhs; whnf
       · first | exact hd)
    | (apply s_guard_val rfl
       · conv => lhs; whnf
       · conv => lhs; whnf
       · conv => lhs; whnf; arg 2; whnf)
    | (apply s_guard_call rfl
       · conv => lhs; whnf
       · conv => lhs; whnf
       · conv => lhs; whnf
       · first | exact hd)
    | (apply aw_cond_t
       · conv => lhs; whnf; arg 1; arg 1; whnf)
    | (apply aw_cond_f
       · conv => lhs; whnf; arg 1; arg 1; whnf)
    | (refine aw_cond (by conv => lhs; whnf) ?_ ?_ <;> intro hb)
    | refine aw_ret ?_
    | refine aw_exit ?_
    | refine k_seq_exit ?_
    | refine k_seq_ret ?_
    | refine k_block_ret ?_
    | refine k_block_hit rfl ?_
    | refine k_block_miss rfl ?_
    | refine k_scope_exit ?_
    | refine k_scope_ret ?_
    | refine k_loop_exit ?_
    | refine k_loop_ret ?_
    | refine k_end ?_
    | refine k_end_ret ?_
    | (refine ⟨_, by conv => lhs; whnf; arg 2; whnf, ?_⟩; conv => rhs; whnf)
    | exact trivial
    | intro hg)
  all_goals
    clear hd he
    refine vb ?_
    generalize (c.toNat : Int) = n at *
    simp only [Bool.or_eq_true, decide_eq_true_iff]
    simp_all
    try omega
set_option maxRecDepth 100000 in
theorem beginsQ_ac (c : UInt8) : AC EN5 Tryd.prog 70 [.c (.int .u8 (c.toNat : Int))] (.c (.bool (beginsJ c))) := by
  have hd := digitQ_ac c
  rw [begins_i]
  generalize digU c = b at hd ⊢
  refine ac_enter 33 Tryd.func70 rfl rfl rfl rfl ?_
  intro w0 w he
  repeat' (first
    | (apply s_wanted_pick_t rfl rfl rfl
       · conv => lhs; whnf
       · first | rfl | assumption
       · conv => lhs; whnf
       · first | exact bT1 (by assumption) | exact bT2 (by assumption) | rfl)
    | (apply s_wpick_t rfl rfl rfl
       · conv => lhs; whnf
       · first | rfl | assumption
       · conv => lhs; whnf
       · first | exact bT1 (by assumption) | exact bT2 (by assumption) | rfl)
    | (apply s_wanted_pick_f rfl rfl rfl
       · conv => lhs; whnf
       · first | rfl | assumption
       · conv => lhs; whnf
       · first | exact bF1 (by assumption) | exact bF2 (by assumption) | rfl)
    | (apply s_wpick_f rfl rfl rfl
       · conv => lhs; whnf
       · first | rfl | assumption
       · conv => lhs; whnf
       · first | exact bF1 (by assumption) | exact bF2 (by assumption) | rfl)
    | refine aw_seq ?_
    | refine aw_region ?_
    | refine awo_nil ?_
    | refine k_seq ?_
    | refine k_block ?_
    | refine k_scope ?_
    | refine aw_block ?_
    | refine aw_skip ?_
    | refine aw_label ?_
    | refine aw_scope ?_
    | (apply s_pick_t rfl rfl
       · conv => lhs; whnf
       · conv => lhs; whnf
       · first | exact bT1 (by assumption) | exact bT2 (by assumption))
    | (apply s_pick_f rfl rfl
       · conv => lhs; whnf
       · conv => lhs; whnf
       · first | exact bF1 (by assumption) | exact bF2 (by assumption))
    | (apply s_val rfl
       · conv => lhs; whnf
       · conv => lhs; whnf; arg 2; whnf)
    | (apply s_call rfl
       · conv => lhs; whnf
       · conv => lhs; whnf
       · first | exact hd)
    | (apply s_wanted_val rfl
       · conv => lhs; whnf
       · conv => lhs; whnf
       · first | rfl | assumption
       · conv => lhs; whnf; arg 2; whnf)
    | (apply s_wanted_call rfl
       · conv => lhs; whnf
       · conv => lhs; whnf
       · first | rfl | assumption
       · conv => lhs; whnf
       · first | exact hd)
    | (apply s_skipU rfl
       · conv => lhs; whnf
       · conv => lhs; whnf
       · first | rfl | assumption)
    | (apply s_dead rfl
       · conv => lhs; whnf
       · rfl
       · rfl)
    | (apply s_guard_valU rfl
       · conv => lhs; whnf
       · conv => lhs; whnf
       · conv => lhs; whnf; arg 2; whnf)
    | (apply s_guard_callU rfl
       · conv => lhs; whnf
       · conv => lhs; whnf
       · conv => lhs; whnf
       · first | exact hd)
    | (apply s_guard_val rfl
       · conv => lhs; whnf
       · conv => lhs; whnf
       · conv => lhs; whnf; arg 2; whnf)
    | (apply s_guard_call rfl
       · conv => lhs; whnf
       · conv => lhs; whnf
       · conv => lhs; whnf
       · first | exact hd)
    | (apply aw_cond_t
       · conv => lhs; whnf; arg 1; arg 1; whnf)
    | (apply aw_cond_f
       · conv => lhs; whnf; arg 1; arg 1; whnf)
    | (refine aw_cond (by conv => lhs; whnf) ?_ ?_ <;> intro hb)
    | refine aw_ret ?_
    | refine aw_exit ?_
    | refine k_seq_exit ?_
    | refine k_seq_ret ?_
    | refine k_block_ret ?_
    | refine k_block_hit rfl ?_
    | refine k_block_miss rfl ?_
    | refine k_scope_exit ?_
    | refine k_scope_ret ?_
    | refine k_loop_exit ?_
    | refine k_loop_ret ?_
    | refine k_end ?_
    | refine k_end_ret ?_
    | (refine ⟨_, by conv => lhs; whnf; arg 2; whnf, ?_⟩; conv => rhs; whnf)
    | exact trivial
    | intro hg)
  all_goals
    clear hd he
    refine vb ?_
    generalize (c.toNat : Int) = n at *
    simp_all
end Go.Proofs.YtjhjleanihgopaaDoor
namespace Go.Proofs.YtjhjleanihgopaaDoor
open Go.RowKit
attribute [local irreducible] wpList Calls Code.wp AW AWo OpOk seqK blockK scopeK loopK endK endKB AC ACB absLex absLexG Yld YldG Sub
set_option maxRecDepth 100000 in
theorem isSp_i (c : UInt8) : isSp c = (((c.toNat : Int) == 32) || ((c.toNat : Int) == 9) || ((c.toNat : Int) == 10) || ((c.toNat : Int) == 13)) := by
  unfold isSp
  rw [show (c == 32) = ((c.toNat : Int) == 32) from beq_u8 c 32 (by decide), show (c == 9) = ((c.toNat : Int) == 9) from beq_u8 c 9 (by decide), show (c == 10) = ((c.toNat : Int) == 10) from beq_u8 c 10 (by decide), show (c == 13) = ((c.toNat : Int) == 13) from beq_u8 c 13 (by decide)]
set_option maxRecDepth 100000 in
theorem getD_lt {l : List UInt8} {p : Nat} {c : UInt8} (h : l.getD p 0 = c) (hc : c ≠ 0) : p < l.length := by
  rcases Nat.lt_or_ge p l.length with h1 | h1
  · exact h1
  · rw [List.getD_eq_getElem?_getD, List.getElem?_eq_none h1] at h
    exact (hc h.symm).elim
set_option maxRecDepth 100000 in
theorem sp_lt {l : List UInt8} {p : Nat} (h : isSp (l.getD p 0) = true) : p < l.length := getD_lt rfl (fun e => by rw [e] at h; exact absurd h (by decide))
set_option maxRecDepth 100000 in
theorem gF {b : Bool} (h : (b == false) = false) : b = true := by simpa using h
set_option maxRecDepth 100000 in
theorem gT {b : Bool} (h : (b == false) = true) : b = false := by simpa using h
noncomputable def HsQ (s : ByteArray) (x : JS) (p : Nat) : Vst 27 := stS 27 [(0, .bx (pn 0) 0)] [(pn 0, boxQ s ⟨p, x.m, x.bad, x.e⟩)]
set_option maxRecDepth 100000 in
theorem skipQ_acb (s : ByteArray) (x : JS) (hs : s.size ≤ 1000000000) (hp : x.p ≤ s.size) : ACB EN5 Tryd.prog 42 [.bx (pn 0) 0] [boxQ s x] (.tup []) [boxQ s (spaceS s.data.toList x)] := by
  refine acb_enter (fn := Tryd.f42) 27 Tryd.func42 rfl rfl ?_
  intro pas w0 w he hpp
  repeat' (first
    | refine aw_seq ?_
    | refine aw_region ?_
    | refine awo_nil ?_
    | refine k_seq ?_
    | refine k_block ?_
    | refine k_scope ?_
    | refine aw_block ?_
    | refine aw_skip ?_
    | refine aw_label ?_
    | refine aw_scope ?_
    | (apply s_pick_t rfl rfl
       · conv => lhs; whnf
       · conv => lhs; whnf
       · first | exact bT1 (by assumption) | exact bT2 (by assumption))
    | (apply s_pick_f rfl rfl
       · conv => lhs; whnf
       · conv => lhs; whnf
       · first | exact bF1 (by assumption) | exact bF2 (by assumption))
    | (apply s_val rfl
       · conv => lhs; whnf
       · conv => lhs; whnf; arg 2; whnf)
    | (apply s_call rfl
       · conv => lhs; whnf
       · conv => lhs; whnf
       · first | fail)
    | (apply s_store rfl rfl rfl
       · conv => lhs; whnf
       · conv => lhs; whnf; arg 1; whnf
       · conv => lhs; whnf; arg 1; whnf
       · exact ⟨by kernel_rfl, by kernel_rfl⟩
       · rfl)
    | (apply s_wanted_val rfl
       · conv => lhs; whnf
       · conv => lhs; whnf
       · first | rfl | assumption
       · conv => lhs; whnf; arg 2; whnf)
    | (apply s_wanted_call rfl
       · conv => lhs; whnf
       · conv => lhs; whnf
       · first | rfl | assumption
       · conv => lhs; whnf
       · first | fail)
    | (apply s_skip rfl
       · conv => lhs; whnf
       · conv => lhs; whnf
       · first | rfl | assumption)
    | (apply s_guard_val rfl
       · conv => lhs; whnf
       · conv => lhs; whnf
       · conv => lhs; whnf; arg 2; whnf)
    | (apply s_guard_call rfl
       · conv => lhs; whnf
       · conv => lhs; whnf
       · conv => lhs; whnf
       · first | fail)
    | (apply aw_cond_t
       · conv => lhs; whnf; arg 1; arg 1; whnf)
    | (apply aw_cond_f
       · conv => lhs; whnf; arg 1; arg 1; whnf)
    | (refine aw_cond (by conv => lhs; whnf) ?_ ?_ <;> intro hb)
    | refine aw_ret ?_
    | refine aw_exit ?_
    | refine k_seq_exit ?_
    | refine k_seq_ret ?_
    | refine k_block_ret ?_
    | refine k_block_hit rfl ?_
    | refine k_block_miss rfl ?_
    | refine k_scope_exit ?_
    | refine k_scope_ret ?_
    | refine k_loop_exit ?_
    | refine k_loop_ret ?_
    | refine k_endB ⟨?_, ?_⟩
    | refine k_endB_ret ⟨?_, ?_⟩
    | exact (rfl : _ = V.tup [])
    | (refine ⟨_, by conv => lhs; whnf; arg 2; whnf, ?_⟩; conv => rhs; whnf)
    | exact trivial
    | intro hg)
  refine aw_loop (fun j st => ∃ p, p + j = s.size ∧ spc (s.data.toList.drop p) = spc (s.data.toList.drop x.p) ∧ Sub ⟨Tryd.prog, pas, w0, w, EN5, he, hpp⟩ st (HsQ s x p)) (s.size - x.p) ⟨x.p, by omega, rfl, ?_⟩ ?_
  · exact Sub.live ⟨rfl, trivial⟩ ⟨rfl, trivial⟩
  · rintro j st ⟨p, hij, hsp, hs2⟩
    refine aw_sub hs2 ?_
    clear hs2
    have hn : ACB EN5 Tryd.prog 69 [.bx (pn 0) 0] [boxQ s ⟨p, x.m, x.bad, x.e⟩] (.c (.int .u8 ((s.data.toList.getD p 0).toNat : Int))) [boxQ s ⟨p, x.m, x.bad, x.e⟩] := nextQ_acb s ⟨p, x.m, x.bad, x.e⟩ hs
    have hi := isSp_i (s.data.toList.getD p 0)
    have hlt := sp_lt (l := s.data.toList) (p := p)
    have hls : s.data.toList.length = s.size := rfl
    have hstep := fun (h : isSp (s.data.toList.getD p 0) = true) => spc_step (s := s) (p := p) (hlt h) h
    generalize hc : s.data.toList.getD p 0 = c at hn hi hlt hstep
    have hstop : isSp c = false → spaceS s.data.toList x = ⟨p, x.m, x.bad, x.e⟩ := fun h => by
      unfold spaceS; rw [← hsp, spc_stop (by omega) fun _ => by rw [hc]; exact h]
    repeat' (first
    | (apply s_meth (cellsQ s) (fun _ _ => rfl) rfl
       · conv => lhs; whnf
       · conv => lhs; whnf
       · rfl
       · conv => lhs; whnf; arg 1; whnf
       · first | exact eta0 _ _ | exact eta1 _ _ | exact eta2 _ _ | exact eta3 _ _ | exact eta6 _ | exact etaQ0 _ _ | exact etaQ1 _ _ | exact etaQ2 _ _ | exact etaQ3 _ _ | exact etaQ6 _
       · first | exact hn
       · exact fun _ => rfl
       · exact fun _ => rfl)
    | (apply s_wanted_meth (cellsQ s) (fun _ _ => rfl) rfl
       · conv => lhs; whnf
       · conv => lhs; whnf
       · first | rfl | assumption
       · conv => lhs; whnf
       · rfl
       · conv => lhs; whnf; arg 1; whnf
       · first | exact eta0 _ _ | exact eta1 _ _ | exact eta2 _ _ | exact eta3 _ _ | exact eta6 _ | exact etaQ0 _ _ | exact etaQ1 _ _ | exact etaQ2 _ _ | exact etaQ3 _ _ | exact etaQ6 _
       · first | exact hn
       · exact fun _ => rfl
       · exact fun _ => rfl)
    | (apply s_skip rfl
       · conv => lhs; whnf
       · conv => lhs; whnf
       · first | rfl | assumption)
    | (apply s_guard_meth (cellsQ s) (fun _ _ => rfl) rfl
       · conv => lhs; whnf
       · conv => lhs; whnf
       · conv => lhs; whnf
       · rfl
       · conv => lhs; whnf; arg 1; whnf
       · first | exact eta0 _ _ | exact eta1 _ _ | exact eta2 _ _ | exact eta3 _ _ | exact eta6 _ | exact etaQ0 _ _ | exact etaQ1 _ _ | exact etaQ2 _ _ | exact etaQ3 _ _ | exact etaQ6 _
       · first | exact hn
       · exact fun _ => rfl
       · exact fun _ => rfl)
    | (apply s_wanted_pick_t rfl rfl rfl
       · conv => lhs; whnf
       · first | rfl | assumption
       · conv => lhs; whnf
       · first | exact bT1 (by assumption) | exact bT2 (by assumption) | rfl)
    | (apply s_wpick_t rfl rfl rfl
       · conv => lhs; whnf
       · first | rfl | assumption
       · conv => lhs; whnf
       · first | exact bT1 (by assumption) | exact bT2 (by assumption) | rfl)
    | (apply s_wanted_pick_f rfl rfl rfl
       · conv => lhs; whnf
       · first | rfl | assumption
       · conv => lhs; whnf
       · first | exact bF1 (by assumption) | exact bF2 (by assumption) | rfl)
    | (apply s_wpick_f rfl rfl rfl
       · conv => lhs; whnf
       · first | rfl | assumption
       · conv => lhs; whnf
       · first | exact bF1 (by assumption) | exact bF2 (by assumption) | rfl)
    | refine aw_seq ?_
    | refine aw_region ?_
    | refine awo_nil ?_
    | refine k_seq ?_
    | refine k_block ?_
    | refine k_scope ?_
    | refine aw_block ?_
    | refine aw_skip ?_
    | refine aw_label ?_
    | refine aw_scope ?_
    | (apply s_pick_t rfl rfl
       · conv => lhs; whnf
       · conv => lhs; whnf
       · first | exact bT1 (by assumption) | exact bT2 (by assumption))
    | (apply s_pick_f rfl rfl
       · conv => lhs; whnf
       · conv => lhs; whnf
       · first | exact bF1 (by assumption) | exact bF2 (by assumption))
    | (apply s_val rfl
       · conv => lhs; whnf
       · conv => lhs; whnf; arg 2; whnf)
    | (apply s_call rfl
       · conv => lhs; whnf
       · conv => lhs; whnf
       · first | fail)
    | (apply s_store rfl rfl rfl
       · conv => lhs; whnf
       · conv => lhs; whnf; arg 1; whnf
       · conv => lhs; whnf; arg 1; whnf
       · exact ⟨by kernel_rfl, by kernel_rfl⟩
       · rfl)
    | (apply s_wanted_val rfl
       · conv => lhs; whnf
       · conv => lhs; whnf
       · first | rfl | assumption
       · conv => lhs; whnf; arg 2; whnf)
    | (apply s_wanted_call rfl
       · conv => lhs; whnf
       · conv => lhs; whnf
       · first | rfl | assumption
       · conv => lhs; whnf
       · first | fail)
    | (apply s_skipU rfl
       · conv => lhs; whnf
       · conv => lhs; whnf
       · first | rfl | assumption)
    | (apply s_dead rfl
       · conv => lhs; whnf
       · rfl
       · rfl)
    | (apply s_guard_valU rfl
       · conv => lhs; whnf
       · conv => lhs; whnf
       · conv => lhs; whnf; arg 2; whnf)
    | (apply s_guard_callU rfl
       · conv => lhs; whnf
       · conv => lhs; whnf
       · conv => lhs; whnf
       · first | fail)
    | (apply s_guard_val rfl
       · conv => lhs; whnf
       · conv => lhs; whnf
       · conv => lhs; whnf; arg 2; whnf)
    | (apply s_guard_call rfl
       · conv => lhs; whnf
       · conv => lhs; whnf
       · conv => lhs; whnf
       · first | fail)
    | (apply aw_cond_t
       · conv => lhs; whnf; arg 1; arg 1; whnf)
    | (apply aw_cond_f
       · conv => lhs; whnf; arg 1; arg 1; whnf)
    | (refine aw_cond (by conv => lhs; whnf) ?_ ?_ <;> intro hb)
    | refine aw_ret ?_
    | refine aw_exit ?_
    | refine k_seq_exit ?_
    | refine k_seq_ret ?_
    | refine k_block_ret ?_
    | refine k_block_hit rfl ?_
    | refine k_block_miss rfl ?_
    | refine k_scope_exit ?_
    | refine k_scope_ret ?_
    | refine k_loop_exit ?_
    | refine k_loop_ret ?_
    | refine k_endB ⟨?_, ?_⟩
    | refine k_endB_ret ⟨?_, ?_⟩
    | exact (rfl : _ = V.tup [])
    | (refine ⟨_, by conv => lhs; whnf; arg 2; whnf, ?_⟩; conv => rhs; whnf)
    | exact trivial
    | intro hg)
    all_goals
      first
        | (have hT : isSp c = true := by
             rw [hi]
             simp only [Bool.or_eq_true]
             first
               | exact Or.inr (by assumption)
               | exact Or.inl (Or.inr (gF (by assumption)))
               | exact Or.inl (Or.inl (Or.inr (gF (by assumption))))
               | exact Or.inl (Or.inl (Or.inl (gF (by assumption))))
           have hl1 := hlt hT
           first
             | exact k_loop_next (j' := j - 1) (by omega) ⟨p + 1, by omega, by rw [← hsp]; exact (hstep hT).symm, Sub.live ⟨rfl, trivial⟩ ⟨rfl, trivial⟩⟩
             | exact i64_in2 (by dsimp only; omega))
        | (have hF : isSp c = false := by
             rw [hi]
             simp only [Bool.or_eq_false_iff]
             exact ⟨⟨⟨gT (by assumption), gT (by assumption)⟩, gT (by assumption)⟩, by assumption⟩
           rw [hstop hF]
           exact ⟨rfl, trivial⟩)
set_option maxRecDepth 100000 in
theorem word_e {S : List UInt8} : ∀ (q : List UInt8) {y : JS}, y.e ≠ 0 → wordS S q y = y
  | [], _, _ => rfl
  | c :: q, y, h => by
    show wordS S q (takeS S [c] y).2 = y
    have e : (takeS S [c] y).2 = y := by
      rw [take_not (fun hh => h hh.1)]
      unfold failS; rw [if_neg h]
    rw [e]; exact word_e q h
set_option maxRecDepth 100000 in
theorem word_split (S : List UInt8) (w : List UInt8) (i : Nat) (x : JS) : wordS S w x = wordS S (w.drop i) (wordS S (w.take i) x) := by
  unfold wordS
  rw [← List.foldl_append, List.take_append_drop]
set_option maxRecDepth 100000 in
theorem fail_e {y : JS} {q : Nat} {c : Int} (hc : c ≠ 0) : (failS y q c).e ≠ 0 := by
  unfold failS
  by_cases h : y.e = 0
  · rw [if_pos h]; exact hc
  · rw [if_neg h]; exact h
set_option maxRecDepth 100000 in
theorem gl_t' {i n : Nat} (h : (decide ((i : Int) < (n : Int)) == true) = true) : i < n := by simpa using h
set_option maxRecDepth 100000 in
theorem gl_f' {i n : Nat} (h : (decide ((i : Int) < (n : Int)) == true) = false) : n ≤ i := by simpa using h
noncomputable def HwQ (s wd : ByteArray) (x : JS) (i : Nat) : Vst 37 := stS 37 [(0, .bx (pn 0) 0), (1, .c (.string wd)), (4, .c (.int .i64 (i : Int)))] [(pn 0, boxQ s (wordS s.data.toList (wd.data.toList.take i) x))]
set_option maxRecDepth 100000 in
theorem wordQ_acb (s : ByteArray) (x : JS) (wd : ByteArray) (hs : s.size ≤ 1000000000) (hl : wd.size ≤ 1000000000) (h0 : ∀ c ∈ wd.data.toList, c ≠ 0) (hp : x.p ≤ s.size) : ACB EN5 Tryd.prog 74 [.bx (pn 0) 0, .c (.string wd)] [boxQ s x] (.tup []) [boxQ s (wordS s.data.toList wd.data.toList x)] := by
  refine acb_enter (fn := Tryd.f74) 37 Tryd.func74 rfl rfl ?_
  intro pas w0 w he hpp
  repeat' (first
    | refine aw_seq ?_
    | refine aw_region ?_
    | refine awo_nil ?_
    | refine k_seq ?_
    | refine k_block ?_
    | refine k_scope ?_
    | refine aw_block ?_
    | refine aw_skip ?_
    | refine aw_label ?_
    | refine aw_scope ?_
    | (apply s_pick_t rfl rfl
       · conv => lhs; whnf
       · conv => lhs; whnf
       · first | exact bT1 (by assumption) | exact bT2 (by assumption))
    | (apply s_pick_f rfl rfl
       · conv => lhs; whnf
       · conv => lhs; whnf
       · first | exact bF1 (by assumption) | exact bF2 (by assumption))
    | (apply s_val rfl
       · conv => lhs; whnf
       · conv => lhs; whnf; arg 2; whnf)
    | (apply s_call rfl
       · conv => lhs; whnf
       · conv => lhs; whnf
       · first | fail)
    | (apply s_store rfl rfl rfl
       · conv => lhs; whnf
       · conv => lhs; whnf; arg 1; whnf
       · conv => lhs; whnf; arg 1; whnf
       · exact ⟨by kernel_rfl, by kernel_rfl⟩
       · rfl)
    | (apply s_wanted_val rfl
       · conv => lhs; whnf
       · conv => lhs; whnf
       · first | rfl | assumption
       · conv => lhs; whnf; arg 2; whnf)
    | (apply s_wanted_call rfl
       · conv => lhs; whnf
       · conv => lhs; whnf
       · first | rfl | assumption
       · conv => lhs; whnf
       · first | fail)
    | (apply s_skip rfl
       · conv => lhs; whnf
       · conv => lhs; whnf
       · first | rfl | assumption)
    | (apply s_guard_val rfl
       · conv => lhs; whnf
       · conv => lhs; whnf
       · conv => lhs; whnf; arg 2; whnf)
    | (apply s_guard_call rfl
       · conv => lhs; whnf
       · conv => lhs; whnf
       · conv => lhs; whnf
       · first | fail)
    | (apply aw_draw (by kernel_rfl) (by kernel_rfl))
    | apply y_nil
    | (apply y_pick_t rfl rfl
       · conv => lhs; whnf
       · conv => lhs; whnf
       · first | exact bT1 (by assumption) | exact bT2 (by assumption))
    | (apply y_pick_f rfl rfl
       · conv => lhs; whnf
       · conv => lhs; whnf
       · first | exact bF1 (by assumption) | exact bF2 (by assumption))
    | (apply y_val rfl
       · conv => lhs; whnf
       · conv => lhs; whnf; arg 2; whnf)
    | (apply y_call rfl
       · conv => lhs; whnf
       · conv => lhs; whnf
       · first | fail)
    | (apply y_store rfl rfl rfl
       · conv => lhs; whnf
       · rfl
       · rfl
       · conv => lhs; whnf; arg 1; whnf
       · conv => lhs; whnf; arg 1; whnf
       · exact ⟨by kernel_rfl, by kernel_rfl⟩
       · rfl)
    | (apply y_wanted_val rfl
       · conv => lhs; whnf
       · conv => lhs; whnf
       · first | rfl | assumption
       · conv => lhs; whnf; arg 2; whnf)
    | (apply y_wanted_call rfl
       · conv => lhs; whnf
       · conv => lhs; whnf
       · first | rfl | assumption
       · conv => lhs; whnf
       · first | fail)
    | (apply y_skip rfl
       · conv => lhs; whnf
       · conv => lhs; whnf
       · first | rfl | assumption)
    | (apply y_guard_val rfl
       · conv => lhs; whnf
       · conv => lhs; whnf
       · conv => lhs; whnf; arg 2; whnf)
    | (apply y_guard_call rfl
       · conv => lhs; whnf
       · conv => lhs; whnf
       · conv => lhs; whnf
       · first | fail)
    | exact apartB_none
    | exact apartB_nil
    | exact all_nil
    | (show List.all _ _ = true; rfl)
    | (show apartB _ _ = true; rfl)
    | exact ([] : List Nat)
    | exact (1000000 : Nat)
    | (apply aw_cond_t
       · conv => lhs; whnf; arg 1; arg 1; whnf)
    | (apply aw_cond_f
       · conv => lhs; whnf; arg 1; arg 1; whnf)
    | (refine aw_cond (by conv => lhs; whnf) ?_ ?_ <;> intro hb)
    | refine aw_ret ?_
    | refine aw_exit ?_
    | refine k_seq_exit ?_
    | refine k_seq_ret ?_
    | refine k_block_ret ?_
    | refine k_block_hit rfl ?_
    | refine k_block_miss rfl ?_
    | refine k_scope_exit ?_
    | refine k_scope_ret ?_
    | refine k_loop_exit ?_
    | refine k_loop_ret ?_
    | refine k_endB ⟨?_, ?_⟩
    | refine k_endB_ret ⟨?_, ?_⟩
    | exact (rfl : _ = V.tup [])
    | (refine ⟨_, by conv => lhs; whnf; arg 2; whnf, ?_⟩; conv => rhs; whnf)
    | exact trivial
    | intro hg)
  refine aw_loop (fun j st => ∃ i, i + j = wd.size ∧ Sub ⟨Tryd.prog, pas, w0, w, EN5, he, hpp⟩ st (HwQ s wd x i)) wd.size ⟨0, by omega, ?_⟩ ?_
  · exact Sub.live ⟨rfl, rfl, rfl, trivial⟩ ⟨rfl, trivial⟩
  · rintro j st ⟨i, hij, hs2⟩
    refine aw_sub hs2 ?_
    clear hs2
    have hn := nextQ_acb s (wordS s.data.toList (wd.data.toList.take i) x) hs
    have hmv := (mv_word (S := s.data.toList) (wd.data.toList.take i) hp).hi
    have hmv : (wordS s.data.toList (wd.data.toList.take i) x).p ≤ s.size := hmv
    have hsplit := word_split s.data.toList wd.data.toList i x
    have hsn := fun (h : i < wd.size) => by
      have e := word_snoc s.data.toList (wd.data.toList.take i) (wd.data.toList.getD i 0) x
      rw [← take_snoc_at h] at e
      exact e
    unfold HwQ
    generalize hY : wordS s.data.toList (wd.data.toList.take i) x = Y at hn hmv hsplit hsn ⊢
    have hls : s.data.toList.length = s.size := rfl
    have hcc : byteAt wd (i : Int).toNat = ((wd.data.toList.getD i 0).toNat : Int) := byteAt_nat wd i
    have hc0 := fun (h : i < wd.size) => h0 (wd.data.toList.getD i 0) (by
      have hw : i < wd.data.toList.length := h
      rw [List.getD_eq_getElem?_getD, List.getElem?_eq_getElem hw]; exact List.getElem_mem hw)
    have hdr := fun (h : i < wd.size) => drop_at2 (s := wd) h
    generalize hcq : wd.data.toList.getD i 0 = c at hcc hc0 hdr hsn
    have hbad := fun (h : i < wd.size) (hne : atS s.data.toList Y ≠ c) => by
      have e1 : wordS s.data.toList wd.data.toList x = failS Y Y.p 3 := by
        rw [hsplit, hdr h]
        show wordS s.data.toList _ (takeS s.data.toList [c] Y).2 = _
        rw [take_not (fun hh => hne (by have := hh.2.2; rw [has_one] at this; simpa using this))]
        exact word_e _ (fail_e (by decide))
      exact e1
    have hgood := fun (h : i < wd.size) (he0 : Y.e = 0) (heq : atS s.data.toList Y = c) => by
      have hlt := at_lt (S := s.data.toList) (x := Y) (hc0 h) heq
      have e1 : wordS s.data.toList (wd.data.toList.take (i + 1)) x = goS Y := by
        rw [hsn h, take_is ⟨he0, hlt, by rw [heq, has_one]; simp⟩]
      exact e1
    have hltg := fun (h : i < wd.size) (heq : atS s.data.toList Y = c) => at_lt (S := s.data.toList) (x := Y) (hc0 h) heq
    repeat' (first
    | (apply s_meth (cellsQ s) (fun _ _ => rfl) rfl
       · conv => lhs; whnf
       · conv => lhs; whnf
       · rfl
       · conv => lhs; whnf; arg 1; whnf
       · first | exact eta0 _ _ | exact eta1 _ _ | exact eta2 _ _ | exact eta3 _ _ | exact eta6 _ | exact etaQ0 _ _ | exact etaQ1 _ _ | exact etaQ2 _ _ | exact etaQ3 _ _ | exact etaQ6 _
       · first | exact hn | exact failQ_acb _ _ _ _
       · exact fun _ => rfl
       · exact fun _ => rfl)
    | (apply g_meth (cellsQ s) (fun _ _ => rfl) rfl
       · conv => lhs; whnf
       · conv => lhs; whnf
       · rfl
       · conv => lhs; whnf; arg 1; whnf
       · first | exact eta0 _ _ | exact eta1 _ _ | exact eta2 _ _ | exact eta3 _ _ | exact eta6 _ | exact etaQ0 _ _ | exact etaQ1 _ _ | exact etaQ2 _ _ | exact etaQ3 _ _ | exact etaQ6 _
       · first | exact hn | exact failQ_acb _ _ _ _
       · exact fun _ => rfl
       · exact fun _ => rfl
       · rfl)
    | (apply s_wanted_meth (cellsQ s) (fun _ _ => rfl) rfl
       · conv => lhs; whnf
       · conv => lhs; whnf
       · first | rfl | assumption
       · conv => lhs; whnf
       · rfl
       · conv => lhs; whnf; arg 1; whnf
       · first | exact eta0 _ _ | exact eta1 _ _ | exact eta2 _ _ | exact eta3 _ _ | exact eta6 _ | exact etaQ0 _ _ | exact etaQ1 _ _ | exact etaQ2 _ _ | exact etaQ3 _ _ | exact etaQ6 _
       · first | exact hn | exact failQ_acb _ _ _ _
       · exact fun _ => rfl
       · exact fun _ => rfl)
    | (apply s_skip rfl
       · conv => lhs; whnf
       · conv => lhs; whnf
       · first | rfl | assumption)
    | (apply s_guard_meth (cellsQ s) (fun _ _ => rfl) rfl
       · conv => lhs; whnf
       · conv => lhs; whnf
       · conv => lhs; whnf
       · rfl
       · conv => lhs; whnf; arg 1; whnf
       · first | exact eta0 _ _ | exact eta1 _ _ | exact eta2 _ _ | exact eta3 _ _ | exact eta6 _ | exact etaQ0 _ _ | exact etaQ1 _ _ | exact etaQ2 _ _ | exact etaQ3 _ _ | exact etaQ6 _
       · first | exact hn | exact failQ_acb _ _ _ _
       · exact fun _ => rfl
       · exact fun _ => rfl)
    | (apply s_wanted_pick_t rfl rfl rfl
       · conv => lhs; whnf
       · first | rfl | assumption
       · conv => lhs; whnf
       · first | exact bT1 (by assumption) | exact bT2 (by assumption) | rfl)
    | (apply s_wpick_t rfl rfl rfl
       · conv => lhs; whnf
       · first | rfl | assumption
       · conv => lhs; whnf
       · first | exact bT1 (by assumption) | exact bT2 (by assumption) | rfl)
    | (apply s_wanted_pick_f rfl rfl rfl
       · conv => lhs; whnf
       · first | rfl | assumption
       · conv => lhs; whnf
       · first | exact bF1 (by assumption) | exact bF2 (by assumption) | rfl)
    | (apply s_wpick_f rfl rfl rfl
       · conv => lhs; whnf
       · first | rfl | assumption
       · conv => lhs; whnf
       · first | exact bF1 (by assumption) | exact bF2 (by assumption) | rfl)
    | (apply aw_drawGn 6 ([]) ([(1, [1000000])]) rfl (by kernel_rfl) (by kernel_rfl) (by kernel_rfl))
    | apply g_nil
    | (apply g_val rfl
       · conv => lhs; whnf
       · conv => lhs; whnf; arg 2; whnf)
    | (apply g_call rfl
       · conv => lhs; whnf
       · conv => lhs; whnf
       · first | fail)
    | (apply g_app rfl rfl
       · conv => lhs; whnf
       · first | (conv => lhs; whnf; arg 1; whnf)
       · first | exact fun _ => rfl | (intro _; kernel_rfl)
       · conv => lhs; whnf
       · rfl
       · conv => lhs; whnf; arg 1; whnf
       · conv => lhs; whnf)
    | (apply g_store rfl rfl rfl
       · conv => lhs; whnf
       · rfl
       · conv => lhs; whnf; arg 1; whnf
       · conv => lhs; whnf; arg 1; whnf
       · exact ⟨by kernel_rfl, by kernel_rfl⟩
       · rfl)
    | (show inO _ _ = true; rfl)
    | refine aw_seq ?_
    | refine aw_region ?_
    | refine awo_nil ?_
    | refine k_seq ?_
    | refine k_block ?_
    | refine k_scope ?_
    | refine aw_block ?_
    | refine aw_skip ?_
    | refine aw_label ?_
    | refine aw_scope ?_
    | (apply s_pick_t rfl rfl
       · conv => lhs; whnf
       · conv => lhs; whnf
       · first | exact bT1 (by assumption) | exact bT2 (by assumption))
    | (apply s_pick_f rfl rfl
       · conv => lhs; whnf
       · conv => lhs; whnf
       · first | exact bF1 (by assumption) | exact bF2 (by assumption))
    | (apply s_val rfl
       · conv => lhs; whnf
       · conv => lhs; whnf; arg 2; whnf)
    | (apply s_call rfl
       · conv => lhs; whnf
       · conv => lhs; whnf
       · first | fail)
    | (apply s_store rfl rfl rfl
       · conv => lhs; whnf
       · conv => lhs; whnf; arg 1; whnf
       · conv => lhs; whnf; arg 1; whnf
       · exact ⟨by kernel_rfl, by kernel_rfl⟩
       · rfl)
    | (apply s_wanted_val rfl
       · conv => lhs; whnf
       · conv => lhs; whnf
       · first | rfl | assumption
       · conv => lhs; whnf; arg 2; whnf)
    | (apply s_wanted_call rfl
       · conv => lhs; whnf
       · conv => lhs; whnf
       · first | rfl | assumption
       · conv => lhs; whnf
       · first | fail)
    | (apply s_skipU rfl
       · conv => lhs; whnf
       · conv => lhs; whnf
       · first | rfl | assumption)
    | (apply s_dead rfl
       · conv => lhs; whnf
       · rfl
       · rfl)
    | (apply s_guard_valU rfl
       · conv => lhs; whnf
       · conv => lhs; whnf
       · conv => lhs; whnf; arg 2; whnf)
    | (apply s_guard_callU rfl
       · conv => lhs; whnf
       · conv => lhs; whnf
       · conv => lhs; whnf
       · first | fail)
    | (apply s_guard_val rfl
       · conv => lhs; whnf
       · conv => lhs; whnf
       · conv => lhs; whnf; arg 2; whnf)
    | (apply s_guard_call rfl
       · conv => lhs; whnf
       · conv => lhs; whnf
       · conv => lhs; whnf
       · first | fail)
    | (apply aw_draw (by kernel_rfl) (by kernel_rfl))
    | apply y_nil
    | (apply y_pick_t rfl rfl
       · conv => lhs; whnf
       · conv => lhs; whnf
       · first | exact bT1 (by assumption) | exact bT2 (by assumption))
    | (apply y_pick_f rfl rfl
       · conv => lhs; whnf
       · conv => lhs; whnf
       · first | exact bF1 (by assumption) | exact bF2 (by assumption))
    | (apply y_val rfl
       · conv => lhs; whnf
       · conv => lhs; whnf; arg 2; whnf)
    | (apply y_call rfl
       · conv => lhs; whnf
       · conv => lhs; whnf
       · first | fail)
    | (apply y_store rfl rfl rfl
       · conv => lhs; whnf
       · rfl
       · rfl
       · conv => lhs; whnf; arg 1; whnf
       · conv => lhs; whnf; arg 1; whnf
       · exact ⟨by kernel_rfl, by kernel_rfl⟩
       · rfl)
    | (apply y_wanted_val rfl
       · conv => lhs; whnf
       · conv => lhs; whnf
       · first | rfl | assumption
       · conv => lhs; whnf; arg 2; whnf)
    | (apply y_wanted_call rfl
       · conv => lhs; whnf
       · conv => lhs; whnf
       · first | rfl | assumption
       · conv => lhs; whnf
       · first | fail)
    | (apply y_skip rfl
       · conv => lhs; whnf
       · conv => lhs; whnf
       · first | rfl | assumption)
    | (apply y_guard_val rfl
       · conv => lhs; whnf
       · conv => lhs; whnf
       · conv => lhs; whnf; arg 2; whnf)
    | (apply y_guard_call rfl
       · conv => lhs; whnf
       · conv => lhs; whnf
       · conv => lhs; whnf
       · first | fail)
    | exact apartB_none
    | exact apartB_nil
    | exact all_nil
    | (show List.all _ _ = true; rfl)
    | (show apartB _ _ = true; rfl)
    | exact ([] : List Nat)
    | exact (1000000 : Nat)
    | (apply aw_cond_t
       · conv => lhs; whnf; arg 1; arg 1; whnf)
    | (apply aw_cond_f
       · conv => lhs; whnf; arg 1; arg 1; whnf)
    | (refine aw_cond (by conv => lhs; whnf) ?_ ?_ <;> intro hb)
    | refine aw_ret ?_
    | refine aw_exit ?_
    | refine k_seq_exit ?_
    | refine k_seq_ret ?_
    | refine k_block_ret ?_
    | refine k_block_hit rfl ?_
    | refine k_block_miss rfl ?_
    | refine k_scope_exit ?_
    | refine k_scope_ret ?_
    | refine k_loop_exit ?_
    | refine k_loop_ret ?_
    | refine k_endB ⟨?_, ?_⟩
    | refine k_endB_ret ⟨?_, ?_⟩
    | exact (rfl : _ = V.tup [])
    | (refine ⟨_, by conv => lhs; whnf; arg 2; whnf, ?_⟩; conv => rhs; whnf)
    | exact trivial
    | intro hg)
    all_goals try (exact (show Tryd.prog.underlying 9 = some TypeDesc.string by kernel_rfl))
    all_goals
      first
        | (have g : i < wd.size := gl_t' (by assumption)
           first
             | (have g1 : (Y.e == 0) = false := by assumption
                have g1 : Y.e ≠ 0 := by simpa using g1
                rw [hsplit, word_e _ g1]
                exact ⟨rfl, trivial⟩)
             | exact ⟨(show Tryd.prog.underlying 9 = some TypeDesc.string by kernel_rfl), by omega, by omega⟩
             | (have g2 : (((atS s.data.toList Y).toNat : Int) != byteAt wd (i : Int).toNat) = true := by assumption
                rw [hcc] at g2
                have g2 : atS s.data.toList Y ≠ c := fun e => by rw [e] at g2; simp at g2
                rw [hbad g g2]
                exact ⟨rfl, trivial⟩)
             | (have g1 : (Y.e == 0) = true := by assumption
                have g1 : Y.e = 0 := by simpa using g1
                have g2 : (((atS s.data.toList Y).toNat : Int) != byteAt wd (i : Int).toNat) = false := by assumption
                rw [hcc] at g2
                have g2 : atS s.data.toList Y = c := by
                  have g3 : ((atS s.data.toList Y).toNat : Int) = (c.toNat : Int) := by simpa using g2
                  exact UInt8.toNat_inj.1 (by omega)
                have hlt := hltg g g2
                first
                  | exact i64_in2 (by omega)
                  | (refine k_loop_next (j' := j - 1) (by omega) ⟨i + 1, by omega, Sub.live ⟨rfl, rfl, rfl, trivial⟩ ⟨?_, trivial⟩⟩
                     rw [hgood g g1 g2]; rfl)))
        | (have g : wd.size ≤ i := gl_f' (by assumption)
           have e : wordS s.data.toList wd.data.toList x = Y := by
             rw [← hY, List.take_of_length_le (by show wd.size ≤ i; omega)]
           rw [e]
           exact ⟨rfl, trivial⟩)
end Go.Proofs.YtjhjleanihgopaaDoor
namespace Go.Proofs.YtjhjleanihgopaaDoor
open Go.RowKit
attribute [local irreducible] wpList Calls Code.wp AW AWo OpOk seqK blockK scopeK loopK endK endKB AC ACB absLex absLexG Yld YldG Sub
set_option maxRecDepth 100000 in
theorem nVR_ac (s : ByteArray) (a b : Nat) (hs : s.size ≤ 1000000000) : AC EN5 Tryd.prog 99 [.c (.string (s.extract a b))] (.tup [.c (.int .i64 (nV s.data.toList a b).1), .c (.int .i64 (nV s.data.toList a b).2)]) := by
  have h := numberR_ac (s.extract a b) (by rw [ByteArray.size_extract]; omega)
  rw [ext_mid] at h
  exact h
noncomputable def HnQ (s : ByteArray) (x y : JS) (c : UInt8) (p : Nat) : Vst 87 :=
  stS 87 [(0, .bx (pn 0) 0), (3, .c (.int .i64 (x.p : Int))), (4, .c (.int .u8 (c.toNat : Int)))] [(pn 0, boxQ s ⟨p, y.m, y.bad, y.e⟩)]
set_option maxRecDepth 100000 in
theorem dig_lt {l : List UInt8} {p : Nat} (h : digU (l.getD p 0) = true) : p < l.length := getD_lt rfl (fun e => by rw [e] at h; exact absurd h (by decide))
def numX (S : List UInt8) (x : JS) : JS := if atS S x = 45 then goS x else x
def numC (S : List UInt8) (x : JS) : Prop := digU (atS S (numX S x)) = false ∨ atS S (numX S x) = 48 ∧ x.p < (numX S x).p
def numY (S : List UInt8) (x : JS) : JS := if atS S (numX S x) = 48 then goS (numX S x) else digsS S (goS (numX S x))
set_option maxRecDepth 100000 in
theorem numbR_bad {S : List UInt8} {x : JS} (h : numC S x) : numbR S x = (0, failS (numX S x) (numX S x).p 3) := by
  unfold numbR
  exact if_pos h
set_option maxRecDepth 100000 in
theorem numbR_ok {S : List UInt8} {x : JS} (h : ¬ numC S x) : numbR S x = ((nV S x.p (numY S x).p).1, if (nV S x.p (numY S x).p).2 ≠ 0 then failS (numY S x) x.p 4 else numY S x) := by
  unfold numbR
  exact if_neg h
set_option maxRecDepth 100000 in
theorem numX_in {S : List UInt8} {x : JS} (hp : x.p ≤ S.length) : x.p ≤ (numX S x).p ∧ (numX S x).p ≤ S.length ∧ (numX S x).e = x.e := by
  unfold numX
  by_cases h : atS S x = 45
  · rw [if_pos h]
    have := at_lt (S := S) (x := x) (b := 45) (by decide) h
    exact ⟨Nat.le_succ _, this, rfl⟩
  · rw [if_neg h]; exact ⟨Nat.le_refl _, hp, rfl⟩
set_option maxHeartbeats 4000000 in
set_option maxRecDepth 100000 in
theorem numberQ_bad (s : ByteArray) (x : JS) (hs : s.size ≤ 1000000000) (hp : x.p ≤ s.size) (hC : numC s.data.toList x) : ACB EN5 Tryd.prog 75 [.bx (pn 0) 0] [boxQ s x] (.c (.int .i64 (numbR s.data.toList x).1)) [boxQ s (numbR s.data.toList x).2] := by
  have hn0 := nextQ_acb s x hs
  have hX := numX_in (S := s.data.toList) hp
  have hXd : numX s.data.toList x = if atS s.data.toList x = 45 then goS x else x := rfl
  rw [numbR_bad hC]
  unfold numC at hC
  generalize numX s.data.toList x = X1 at hX hC hXd
  have hn1 := nextQ_acb s X1 hs
  have hd1 := digitQ_ac (atS s.data.toList X1)
  have hls : s.data.toList.length = s.size := rfl
  refine acb_enter (fn := Tryd.f75) 87 Tryd.func75 rfl rfl ?_
  intro pas w0 w he hpp
  repeat' (first
    | (apply s_meth (cellsQ s) (fun _ _ => rfl) rfl
       · conv => lhs; whnf
       · conv => lhs; whnf
       · rfl
       · conv => lhs; whnf; arg 1; whnf
       · first | exact eta0 _ _ | exact eta1 _ _ | exact eta2 _ _ | exact eta3 _ _ | exact eta6 _ | exact etaQ0 _ _ | exact etaQ1 _ _ | exact etaQ2 _ _ | exact etaQ3 _ _ | exact etaQ6 _
       · first | exact hn0 | exact hn1 | exact failQ_acb _ _ _ _
       · exact fun _ => rfl
       · exact fun _ => rfl)
    | (apply s_wanted_meth (cellsQ s) (fun _ _ => rfl) rfl
       · conv => lhs; whnf
       · conv => lhs; whnf
       · first | rfl | assumption
       · conv => lhs; whnf
       · rfl
       · conv => lhs; whnf; arg 1; whnf
       · first | exact eta0 _ _ | exact eta1 _ _ | exact eta2 _ _ | exact eta3 _ _ | exact eta6 _ | exact etaQ0 _ _ | exact etaQ1 _ _ | exact etaQ2 _ _ | exact etaQ3 _ _ | exact etaQ6 _
       · first | exact hn0 | exact hn1 | exact failQ_acb _ _ _ _
       · exact fun _ => rfl
       · exact fun _ => rfl)
    | (apply s_skipU rfl
       · conv => lhs; whnf
       · conv => lhs; whnf
       · first | rfl | assumption)
    | (apply s_dead rfl
       · conv => lhs; whnf
       · rfl
       · rfl)
    | (apply s_guard_meth (cellsQ s) (fun _ _ => rfl) rfl
       · conv => lhs; whnf
       · conv => lhs; whnf
       · conv => lhs; whnf
       · rfl
       · conv => lhs; whnf; arg 1; whnf
       · first | exact eta0 _ _ | exact eta1 _ _ | exact eta2 _ _ | exact eta3 _ _ | exact eta6 _ | exact etaQ0 _ _ | exact etaQ1 _ _ | exact etaQ2 _ _ | exact etaQ3 _ _ | exact etaQ6 _
       · first | exact hn0 | exact hn1 | exact failQ_acb _ _ _ _
       · exact fun _ => rfl
       · exact fun _ => rfl)
    | (apply s_wanted_pick_t rfl rfl rfl
       · conv => lhs; whnf
       · first | rfl | assumption
       · conv => lhs; whnf
       · first | exact bT1 (by assumption) | exact bT2 (by assumption) | rfl)
    | (apply s_wpick_t rfl rfl rfl
       · conv => lhs; whnf
       · first | rfl | assumption
       · conv => lhs; whnf
       · first | exact bT1 (by assumption) | exact bT2 (by assumption) | rfl)
    | (apply s_wanted_pick_f rfl rfl rfl
       · conv => lhs; whnf
       · first | rfl | assumption
       · conv => lhs; whnf
       · first | exact bF1 (by assumption) | exact bF2 (by assumption) | rfl)
    | (apply s_wpick_f rfl rfl rfl
       · conv => lhs; whnf
       · first | rfl | assumption
       · conv => lhs; whnf
       · first | exact bF1 (by assumption) | exact bF2 (by assumption) | rfl)
    | apply aw_cutAt 4 (stS 87 [(0, .bx (pn 0) 0), (3, .c (.int .i64 x.p))] [(pn 0, boxQ s X1)]) rfl
    | refine k_cut_ret ?_
    | refine k_cut_exit ?_
    | refine k_cut ?_
    | refine aw_seq ?_
    | refine aw_region ?_
    | refine awo_nil ?_
    | refine k_seq ?_
    | refine k_block ?_
    | refine k_scope ?_
    | refine aw_block ?_
    | refine aw_skip ?_
    | refine aw_label ?_
    | refine aw_scope ?_
    | (apply s_pick_t rfl rfl
       · conv => lhs; whnf
       · conv => lhs; whnf
       · first | exact bT1 (by assumption) | exact bT2 (by assumption))
    | (apply s_pick_f rfl rfl
       · conv => lhs; whnf
       · conv => lhs; whnf
       · first | exact bF1 (by assumption) | exact bF2 (by assumption))
    | (apply s_val rfl
       · conv => lhs; whnf
       · conv => lhs; whnf; arg 2; whnf)
    | (apply s_call rfl
       · conv => lhs; whnf
       · conv => lhs; whnf
       · first | exact hd1)
    | (apply s_store rfl rfl rfl
       · conv => lhs; whnf
       · conv => lhs; whnf; arg 1; whnf
       · conv => lhs; whnf; arg 1; whnf
       · exact ⟨by kernel_rfl, by kernel_rfl⟩
       · rfl)
    | (apply s_wanted_val rfl
       · conv => lhs; whnf
       · conv => lhs; whnf
       · first | rfl | assumption
       · conv => lhs; whnf; arg 2; whnf)
    | (apply s_wanted_call rfl
       · conv => lhs; whnf
       · conv => lhs; whnf
       · first | rfl | assumption
       · conv => lhs; whnf
       · first | exact hd1)
    | (apply s_skipU rfl
       · conv => lhs; whnf
       · conv => lhs; whnf
       · first | rfl | assumption)
    | (apply s_dead rfl
       · conv => lhs; whnf
       · rfl
       · rfl)
    | (apply s_guard_valU rfl
       · conv => lhs; whnf
       · conv => lhs; whnf
       · conv => lhs; whnf; arg 2; whnf)
    | (apply s_guard_callU rfl
       · conv => lhs; whnf
       · conv => lhs; whnf
       · conv => lhs; whnf
       · first | exact hd1)
    | (apply s_guard_val rfl
       · conv => lhs; whnf
       · conv => lhs; whnf
       · conv => lhs; whnf; arg 2; whnf)
    | (apply s_guard_call rfl
       · conv => lhs; whnf
       · conv => lhs; whnf
       · conv => lhs; whnf
       · first | exact hd1)
    | (apply aw_draw (by kernel_rfl) (by kernel_rfl))
    | apply y_nil
    | (apply y_pick_t rfl rfl
       · conv => lhs; whnf
       · conv => lhs; whnf
       · first | exact bT1 (by assumption) | exact bT2 (by assumption))
    | (apply y_pick_f rfl rfl
       · conv => lhs; whnf
       · conv => lhs; whnf
       · first | exact bF1 (by assumption) | exact bF2 (by assumption))
    | (apply y_val rfl
       · conv => lhs; whnf
       · conv => lhs; whnf; arg 2; whnf)
    | (apply y_call rfl
       · conv => lhs; whnf
       · conv => lhs; whnf
       · first | exact hd1)
    | (apply y_store rfl rfl rfl
       · conv => lhs; whnf
       · rfl
       · rfl
       · conv => lhs; whnf; arg 1; whnf
       · conv => lhs; whnf; arg 1; whnf
       · exact ⟨by kernel_rfl, by kernel_rfl⟩
       · rfl)
    | (apply y_wanted_val rfl
       · conv => lhs; whnf
       · conv => lhs; whnf
       · first | rfl | assumption
       · conv => lhs; whnf; arg 2; whnf)
    | (apply y_wanted_call rfl
       · conv => lhs; whnf
       · conv => lhs; whnf
       · first | rfl | assumption
       · conv => lhs; whnf
       · first | exact hd1)
    | (apply y_skip rfl
       · conv => lhs; whnf
       · conv => lhs; whnf
       · first | rfl | assumption)
    | (apply y_guard_val rfl
       · conv => lhs; whnf
       · conv => lhs; whnf
       · conv => lhs; whnf; arg 2; whnf)
    | (apply y_guard_call rfl
       · conv => lhs; whnf
       · conv => lhs; whnf
       · conv => lhs; whnf
       · first | exact hd1)
    | exact apartB_none
    | exact apartB_nil
    | exact all_nil
    | (show List.all _ _ = true; rfl)
    | (show apartB _ _ = true; rfl)
    | exact ([] : List Nat)
    | exact (1000000 : Nat)
    | (apply aw_cond_t
       · conv => lhs; whnf; arg 1; arg 1; whnf)
    | (apply aw_cond_f
       · conv => lhs; whnf; arg 1; arg 1; whnf)
    | (refine aw_cond (by conv => lhs; whnf) ?_ ?_ <;> intro hb)
    | refine aw_ret ?_
    | refine aw_exit ?_
    | refine k_seq_exit ?_
    | refine k_seq_ret ?_
    | refine k_block_ret ?_
    | refine k_block_hit rfl ?_
    | refine k_block_miss rfl ?_
    | refine k_scope_exit ?_
    | refine k_scope_ret ?_
    | refine k_loop_exit ?_
    | refine k_loop_ret ?_
    | refine k_endB ⟨?_, ?_⟩
    | refine k_endB_ret ⟨?_, ?_⟩
    | exact (rfl : _ = V.tup [])
    | (refine ⟨_, by conv => lhs; whnf; arg 2; whnf, ?_⟩; conv => rhs; whnf)
    | exact trivial
    | intro hg)
  all_goals
    first
      | exact i64_in2 (by omega)
      | (have g : (((atS s.data.toList x).toNat : Int) == 45) = true := by assumption
         have g : atS s.data.toList x = 45 := u8_eq (n := 45) g (by decide)
         rw [hXd, if_pos g]
         exact Sub.live ⟨rfl, rfl, trivial⟩ ⟨rfl, trivial⟩)
      | (have g : (((atS s.data.toList x).toNat : Int) == 45) = false := by assumption
         have g : ¬ atS s.data.toList x = 45 := u8_ne2 (n := 45) g (by decide)
         rw [hXd, if_neg g]
         exact Sub.live ⟨rfl, rfl, trivial⟩ ⟨rfl, trivial⟩)
      | exact ⟨rfl, trivial⟩
      | (exfalso
         have g1 : digU (atS s.data.toList X1) = true := by simpa using gT (by assumption : ((!digU (atS s.data.toList X1)) == false) = true)
         rcases hC with hC | ⟨hC, hlt⟩
         · rw [g1] at hC; cases hC
         · first
             | (have g2 : ((((atS s.data.toList X1).toNat : Int) == 48) == true) = false := by assumption
                rw [hC] at g2; exact absurd g2 (by decide))
             | (have g3 : decide ((X1.p : Int) > (x.p : Int)) = false := by assumption
                exact of_decide_eq_false g3 (by omega)))
set_option maxHeartbeats 4000000 in
set_option maxRecDepth 100000 in
theorem numberQ_ok (s : ByteArray) (x : JS) (hs : s.size ≤ 1000000000) (hp : x.p ≤ s.size) (he0 : x.e = 0) (hC : ¬ numC s.data.toList x) : ACB EN5 Tryd.prog 75 [.bx (pn 0) 0] [boxQ s x] (.c (.int .i64 (numbR s.data.toList x).1)) [boxQ s (numbR s.data.toList x).2] := by
  have hn0 := nextQ_acb s x hs
  have hX := numX_in (S := s.data.toList) hp
  have hXd : numX s.data.toList x = if atS s.data.toList x = 45 then goS x else x := rfl
  have hYd : numY s.data.toList x = if atS s.data.toList (numX s.data.toList x) = 48 then goS (numX s.data.toList x) else digsS s.data.toList (goS (numX s.data.toList x)) := rfl
  rw [numbR_ok hC]
  unfold numC at hC
  generalize numX s.data.toList x = X1 at hX hC hXd hYd
  generalize numY s.data.toList x = Y at hYd ⊢
  have hn1 := nextQ_acb s X1 hs
  have hd1 := digitQ_ac (atS s.data.toList X1)
  have hls : s.data.toList.length = s.size := rfl
  have hX1e : X1.e = 0 := by rw [hX.2.2]; exact he0
  have hdig : digU (atS s.data.toList X1) = true := by
    cases h : digU (atS s.data.toList X1) with
    | true => rfl
    | false => exact (hC (.inl h)).elim
  have hX1lt : X1.p < s.size := dig_lt hdig
  have hYm : Mv s.data.toList (goS X1) Y := by
    have hg : (goS X1).p ≤ s.data.toList.length := hX1lt
    rw [hYd]
    split
    · exact Mv.refl hg
    · exact mv_digs hg
  have hYlo : X1.p + 1 ≤ Y.p := hYm.lo
  have hYhi : Y.p ≤ s.size := hYm.hi
  have hnm := nVR_ac s x.p Y.p hs
  refine acb_enter (fn := Tryd.f75) 87 Tryd.func75 rfl rfl ?_
  intro pas w0 w he hpp
  repeat' (first
    | (apply s_meth (cellsQ s) (fun _ _ => rfl) rfl
       · conv => lhs; whnf
       · conv => lhs; whnf
       · rfl
       · conv => lhs; whnf; arg 1; whnf
       · first | exact eta0 _ _ | exact eta1 _ _ | exact eta2 _ _ | exact eta3 _ _ | exact eta6 _ | exact etaQ0 _ _ | exact etaQ1 _ _ | exact etaQ2 _ _ | exact etaQ3 _ _ | exact etaQ6 _
       · first | exact hn0 | exact hn1 | exact failQ_acb _ _ _ _
       · exact fun _ => rfl
       · exact fun _ => rfl)
    | (apply s_wanted_meth (cellsQ s) (fun _ _ => rfl) rfl
       · conv => lhs; whnf
       · conv => lhs; whnf
       · first | rfl | assumption
       · conv => lhs; whnf
       · rfl
       · conv => lhs; whnf; arg 1; whnf
       · first | exact eta0 _ _ | exact eta1 _ _ | exact eta2 _ _ | exact eta3 _ _ | exact eta6 _ | exact etaQ0 _ _ | exact etaQ1 _ _ | exact etaQ2 _ _ | exact etaQ3 _ _ | exact etaQ6 _
       · first | exact hn0 | exact hn1 | exact failQ_acb _ _ _ _
       · exact fun _ => rfl
       · exact fun _ => rfl)
    | (apply s_skipU rfl
       · conv => lhs; whnf
       · conv => lhs; whnf
       · first | rfl | assumption)
    | (apply s_dead rfl
       · conv => lhs; whnf
       · rfl
       · rfl)
    | (apply s_guard_meth (cellsQ s) (fun _ _ => rfl) rfl
       · conv => lhs; whnf
       · conv => lhs; whnf
       · conv => lhs; whnf
       · rfl
       · conv => lhs; whnf; arg 1; whnf
       · first | exact eta0 _ _ | exact eta1 _ _ | exact eta2 _ _ | exact eta3 _ _ | exact eta6 _ | exact etaQ0 _ _ | exact etaQ1 _ _ | exact etaQ2 _ _ | exact etaQ3 _ _ | exact etaQ6 _
       · first | exact hn0 | exact hn1 | exact failQ_acb _ _ _ _
       · exact fun _ => rfl
       · exact fun _ => rfl)
    | (apply s_wanted_pick_t rfl rfl rfl
       · conv => lhs; whnf
       · first | rfl | assumption
       · conv => lhs; whnf
       · first | exact bT1 (by assumption) | exact bT2 (by assumption) | rfl)
    | (apply s_wpick_t rfl rfl rfl
       · conv => lhs; whnf
       · first | rfl | assumption
       · conv => lhs; whnf
       · first | exact bT1 (by assumption) | exact bT2 (by assumption) | rfl)
    | (apply s_wanted_pick_f rfl rfl rfl
       · conv => lhs; whnf
       · first | rfl | assumption
       · conv => lhs; whnf
       · first | exact bF1 (by assumption) | exact bF2 (by assumption) | rfl)
    | (apply s_wpick_f rfl rfl rfl
       · conv => lhs; whnf
       · first | rfl | assumption
       · conv => lhs; whnf
       · first | exact bF1 (by assumption) | exact bF2 (by assumption) | rfl)
    | apply aw_cutAt 4 (stS 87 [(0, .bx (pn 0) 0), (3, .c (.int .i64 x.p))] [(pn 0, boxQ s X1)]) rfl
    | apply aw_cutAt 7 (stS 87 [(0, .bx (pn 0) 0), (3, .c (.int .i64 x.p))] [(pn 0, boxQ s X1)]) rfl
    | apply aw_cutAt 11 (stS 87 [(0, .bx (pn 0) 0), (3, .c (.int .i64 x.p))] [(pn 0, boxQ s Y)]) rfl
    | refine k_cut_ret ?_
    | refine k_cut_exit ?_
    | refine k_cut ?_
    | refine aw_seq ?_
    | refine aw_region ?_
    | refine awo_nil ?_
    | refine k_seq ?_
    | refine k_block ?_
    | refine k_scope ?_
    | refine aw_block ?_
    | refine aw_skip ?_
    | refine aw_label ?_
    | refine aw_scope ?_
    | (apply s_pick_t rfl rfl
       · conv => lhs; whnf
       · conv => lhs; whnf
       · first | exact bT1 (by assumption) | exact bT2 (by assumption))
    | (apply s_pick_f rfl rfl
       · conv => lhs; whnf
       · conv => lhs; whnf
       · first | exact bF1 (by assumption) | exact bF2 (by assumption))
    | (apply s_val rfl
       · conv => lhs; whnf
       · conv => lhs; whnf; arg 2; whnf)
    | (apply s_call rfl
       · conv => lhs; whnf
       · conv => lhs; whnf
       · first | exact hd1 | exact hnm)
    | (apply s_store rfl rfl rfl
       · conv => lhs; whnf
       · conv => lhs; whnf; arg 1; whnf
       · conv => lhs; whnf; arg 1; whnf
       · exact ⟨by kernel_rfl, by kernel_rfl⟩
       · rfl)
    | (apply s_wanted_val rfl
       · conv => lhs; whnf
       · conv => lhs; whnf
       · first | rfl | assumption
       · conv => lhs; whnf; arg 2; whnf)
    | (apply s_wanted_call rfl
       · conv => lhs; whnf
       · conv => lhs; whnf
       · first | rfl | assumption
       · conv => lhs; whnf
       · first | exact hd1 | exact hnm)
    | (apply s_skipU rfl
       · conv => lhs; whnf
       · conv => lhs; whnf
       · first | rfl | assumption)
    | (apply s_dead rfl
       · conv => lhs; whnf
       · rfl
       · rfl)
    | (apply s_guard_valU rfl
       · conv => lhs; whnf
       · conv => lhs; whnf
       · conv => lhs; whnf; arg 2; whnf)
    | (apply s_guard_callU rfl
       · conv => lhs; whnf
       · conv => lhs; whnf
       · conv => lhs; whnf
       · first | exact hd1 | exact hnm)
    | (apply s_guard_val rfl
       · conv => lhs; whnf
       · conv => lhs; whnf
       · conv => lhs; whnf; arg 2; whnf)
    | (apply s_guard_call rfl
       · conv => lhs; whnf
       · conv => lhs; whnf
       · conv => lhs; whnf
       · first | exact hd1 | exact hnm)
    | (apply aw_draw (by kernel_rfl) (by kernel_rfl))
    | apply y_nil
    | (apply y_pick_t rfl rfl
       · conv => lhs; whnf
       · conv => lhs; whnf
       · first | exact bT1 (by assumption) | exact bT2 (by assumption))
    | (apply y_pick_f rfl rfl
       · conv => lhs; whnf
       · conv => lhs; whnf
       · first | exact bF1 (by assumption) | exact bF2 (by assumption))
    | (apply y_val rfl
       · conv => lhs; whnf
       · conv => lhs; whnf; arg 2; whnf)
    | (apply y_call rfl
       · conv => lhs; whnf
       · conv => lhs; whnf
       · first | exact hd1 | exact hnm)
    | (apply y_store rfl rfl rfl
       · conv => lhs; whnf
       · rfl
       · rfl
       · conv => lhs; whnf; arg 1; whnf
       · conv => lhs; whnf; arg 1; whnf
       · exact ⟨by kernel_rfl, by kernel_rfl⟩
       · rfl)
    | (apply y_wanted_val rfl
       · conv => lhs; whnf
       · conv => lhs; whnf
       · first | rfl | assumption
       · conv => lhs; whnf; arg 2; whnf)
    | (apply y_wanted_call rfl
       · conv => lhs; whnf
       · conv => lhs; whnf
       · first | rfl | assumption
       · conv => lhs; whnf
       · first | exact hd1 | exact hnm)
    | (apply y_skip rfl
       · conv => lhs; whnf
       · conv => lhs; whnf
       · first | rfl | assumption)
    | (apply y_guard_val rfl
       · conv => lhs; whnf
       · conv => lhs; whnf
       · conv => lhs; whnf; arg 2; whnf)
    | (apply y_guard_call rfl
       · conv => lhs; whnf
       · conv => lhs; whnf
       · conv => lhs; whnf
       · first | exact hd1 | exact hnm)
    | exact apartB_none
    | exact apartB_nil
    | exact all_nil
    | (show List.all _ _ = true; rfl)
    | (show apartB _ _ = true; rfl)
    | exact ([] : List Nat)
    | exact (1000000 : Nat)
    | (apply aw_cond_t
       · conv => lhs; whnf; arg 1; arg 1; whnf)
    | (apply aw_cond_f
       · conv => lhs; whnf; arg 1; arg 1; whnf)
    | (refine aw_cond (by conv => lhs; whnf) ?_ ?_ <;> intro hb)
    | refine aw_ret ?_
    | refine aw_exit ?_
    | refine k_seq_exit ?_
    | refine k_seq_ret ?_
    | refine k_block_ret ?_
    | refine k_block_hit rfl ?_
    | refine k_block_miss rfl ?_
    | refine k_scope_exit ?_
    | refine k_scope_ret ?_
    | refine k_loop_exit ?_
    | refine k_loop_ret ?_
    | refine k_endB ⟨?_, ?_⟩
    | refine k_endB_ret ⟨?_, ?_⟩
    | exact (rfl : _ = V.tup [])
    | (refine ⟨_, by conv => lhs; whnf; arg 2; whnf, ?_⟩; conv => rhs; whnf)
    | exact trivial
    | intro hg)
  rotate_right 1
  all_goals try
    first
      | exact i64_in2 (by omega)
      | (have g : (((atS s.data.toList x).toNat : Int) == 45) = true := by assumption
         have g : atS s.data.toList x = 45 := u8_eq (n := 45) g (by decide)
         rw [hXd, if_pos g]
         exact Sub.live ⟨rfl, rfl, trivial⟩ ⟨rfl, trivial⟩)
      | (have g : (((atS s.data.toList x).toNat : Int) == 45) = false := by assumption
         have g : ¬ atS s.data.toList x = 45 := u8_ne2 (n := 45) g (by decide)
         rw [hXd, if_neg g]
         exact Sub.live ⟨rfl, rfl, trivial⟩ ⟨rfl, trivial⟩)
      | exact Sub.live ⟨rfl, rfl, trivial⟩ ⟨rfl, trivial⟩
      | (exfalso
         apply hC
         right
         exact ⟨u8_eq (n := 48) (bq_t (by assumption)) (by decide), by
           have g3 : decide ((X1.p : Int) > (x.p : Int)) = true := by assumption
           have := of_decide_eq_true g3; omega⟩)
      | (exfalso
         have g1 : ((!digU (atS s.data.toList X1)) == false) = false := by assumption
         rw [hdig] at g1; exact absurd g1 (by decide))
      | (have g := ne_b (n := (nV s.data.toList x.p Y.p).2) (by assumption)
         rw [if_pos g]
         exact ⟨rfl, trivial⟩)
      | (have g := eq_b (n := (nV s.data.toList x.p Y.p).2) (by assumption)
         rw [if_neg (fun h => h g)]
         exact ⟨rfl, trivial⟩)
      | exact ⟨by kernel_rfl, by omega, by omega, by omega⟩
  refine aw_loop (fun j st => ∃ p, p + j = s.size ∧ X1.p + 1 ≤ p ∧ (s.data.toList.drop p).dropWhile digU = (s.data.toList.drop (X1.p + 1)).dropWhile digU ∧ (atS s.data.toList X1 = 48 → p = X1.p + 1) ∧ Sub ⟨Tryd.prog, pas, w0, w, EN5, he, hpp⟩ st (HnQ s x X1 (atS s.data.toList X1) p)) (s.size - (X1.p + 1)) ⟨X1.p + 1, by omega, Nat.le_refl _, rfl, fun _ => rfl, ?_⟩ ?_
  · exact Sub.live ⟨rfl, rfl, rfl, trivial⟩ ⟨rfl, trivial⟩
  · rintro j st ⟨p, hij, hlp, hdw, hfix, hs2⟩
    refine aw_sub hs2 ?_
    clear hs2
    have hn2 : ACB EN5 Tryd.prog 69 [.bx (pn 0) 0] [boxQ s ⟨p, X1.m, X1.bad, X1.e⟩] (.c (.int .u8 ((s.data.toList.getD p 0).toNat : Int))) [boxQ s ⟨p, X1.m, X1.bad, X1.e⟩] := nextQ_acb s ⟨p, X1.m, X1.bad, X1.e⟩ hs
    have hd2 := digitQ_ac (s.data.toList.getD p 0)
    have hlt := dig_lt (l := s.data.toList) (p := p)
    have stop : ¬ atS s.data.toList X1 = 48 → digU (s.data.toList.getD p 0) = false → Y = ⟨p, X1.m, X1.bad, X1.e⟩ := fun h h2 => by
      rw [hYd, if_neg h]
      unfold digsS
      rw [if_pos (show (goS X1).e = 0 from hX1e)]
      show (⟨s.data.toList.length - ((s.data.toList.drop (X1.p + 1)).dropWhile digU).length, X1.m, X1.bad, X1.e⟩ : JS) = _
      rw [← hdw, dw_stop (by omega) fun _ => h2]
    have stop0 : atS s.data.toList X1 = 48 → Y = ⟨p, X1.m, X1.bad, X1.e⟩ := fun h => by
      rw [hYd, if_pos h, hfix h]; rfl
    have hstep := fun (h : digU (s.data.toList.getD p 0) = true) => dw_step (s := s) (p := p) (hlt h) h
    generalize s.data.toList.getD p 0 = b at hn2 hd2 hlt stop hstep
    repeat' (first
    | (apply s_meth (cellsQ s) (fun _ _ => rfl) rfl
       · conv => lhs; whnf
       · conv => lhs; whnf
       · rfl
       · conv => lhs; whnf; arg 1; whnf
       · first | exact eta0 _ _ | exact eta1 _ _ | exact eta2 _ _ | exact eta3 _ _ | exact eta6 _ | exact etaQ0 _ _ | exact etaQ1 _ _ | exact etaQ2 _ _ | exact etaQ3 _ _ | exact etaQ6 _
       · first | exact hn2
       · exact fun _ => rfl
       · exact fun _ => rfl)
    | (apply s_wanted_meth (cellsQ s) (fun _ _ => rfl) rfl
       · conv => lhs; whnf
       · conv => lhs; whnf
       · first | rfl | assumption
       · conv => lhs; whnf
       · rfl
       · conv => lhs; whnf; arg 1; whnf
       · first | exact eta0 _ _ | exact eta1 _ _ | exact eta2 _ _ | exact eta3 _ _ | exact eta6 _ | exact etaQ0 _ _ | exact etaQ1 _ _ | exact etaQ2 _ _ | exact etaQ3 _ _ | exact etaQ6 _
       · first | exact hn2
       · exact fun _ => rfl
       · exact fun _ => rfl)
    | (apply s_skipU rfl
       · conv => lhs; whnf
       · conv => lhs; whnf
       · first | rfl | assumption)
    | (apply s_dead rfl
       · conv => lhs; whnf
       · rfl
       · rfl)
    | (apply s_guard_meth (cellsQ s) (fun _ _ => rfl) rfl
       · conv => lhs; whnf
       · conv => lhs; whnf
       · conv => lhs; whnf
       · rfl
       · conv => lhs; whnf; arg 1; whnf
       · first | exact eta0 _ _ | exact eta1 _ _ | exact eta2 _ _ | exact eta3 _ _ | exact eta6 _ | exact etaQ0 _ _ | exact etaQ1 _ _ | exact etaQ2 _ _ | exact etaQ3 _ _ | exact etaQ6 _
       · first | exact hn2
       · exact fun _ => rfl
       · exact fun _ => rfl)
    | (apply s_wanted_pick_t rfl rfl rfl
       · conv => lhs; whnf
       · first | rfl | assumption
       · conv => lhs; whnf
       · first | exact bT1 (by assumption) | exact bT2 (by assumption) | rfl)
    | (apply s_wpick_t rfl rfl rfl
       · conv => lhs; whnf
       · first | rfl | assumption
       · conv => lhs; whnf
       · first | exact bT1 (by assumption) | exact bT2 (by assumption) | rfl)
    | (apply s_wanted_pick_f rfl rfl rfl
       · conv => lhs; whnf
       · first | rfl | assumption
       · conv => lhs; whnf
       · first | exact bF1 (by assumption) | exact bF2 (by assumption) | rfl)
    | (apply s_wpick_f rfl rfl rfl
       · conv => lhs; whnf
       · first | rfl | assumption
       · conv => lhs; whnf
       · first | exact bF1 (by assumption) | exact bF2 (by assumption) | rfl)
    | refine k_cut_ret ?_
    | refine k_cut_exit ?_
    | refine k_cut ?_
    | refine aw_seq ?_
    | refine aw_region ?_
    | refine awo_nil ?_
    | refine k_seq ?_
    | refine k_block ?_
    | refine k_scope ?_
    | refine aw_block ?_
    | refine aw_skip ?_
    | refine aw_label ?_
    | refine aw_scope ?_
    | (apply s_pick_t rfl rfl
       · conv => lhs; whnf
       · conv => lhs; whnf
       · first | exact bT1 (by assumption) | exact bT2 (by assumption))
    | (apply s_pick_f rfl rfl
       · conv => lhs; whnf
       · conv => lhs; whnf
       · first | exact bF1 (by assumption) | exact bF2 (by assumption))
    | (apply s_val rfl
       · conv => lhs; whnf
       · conv => lhs; whnf; arg 2; whnf)
    | (apply s_call rfl
       · conv => lhs; whnf
       · conv => lhs; whnf
       · first | exact hd2)
    | (apply s_store rfl rfl rfl
       · conv => lhs; whnf
       · conv => lhs; whnf; arg 1; whnf
       · conv => lhs; whnf; arg 1; whnf
       · exact ⟨by kernel_rfl, by kernel_rfl⟩
       · rfl)
    | (apply s_wanted_val rfl
       · conv => lhs; whnf
       · conv => lhs; whnf
       · first | rfl | assumption
       · conv => lhs; whnf; arg 2; whnf)
    | (apply s_wanted_call rfl
       · conv => lhs; whnf
       · conv => lhs; whnf
       · first | rfl | assumption
       · conv => lhs; whnf
       · first | exact hd2)
    | (apply s_skipU rfl
       · conv => lhs; whnf
       · conv => lhs; whnf
       · first | rfl | assumption)
    | (apply s_dead rfl
       · conv => lhs; whnf
       · rfl
       · rfl)
    | (apply s_guard_valU rfl
       · conv => lhs; whnf
       · conv => lhs; whnf
       · conv => lhs; whnf; arg 2; whnf)
    | (apply s_guard_callU rfl
       · conv => lhs; whnf
       · conv => lhs; whnf
       · conv => lhs; whnf
       · first | exact hd2)
    | (apply s_guard_val rfl
       · conv => lhs; whnf
       · conv => lhs; whnf
       · conv => lhs; whnf; arg 2; whnf)
    | (apply s_guard_call rfl
       · conv => lhs; whnf
       · conv => lhs; whnf
       · conv => lhs; whnf
       · first | exact hd2)
    | (apply aw_draw (by kernel_rfl) (by kernel_rfl))
    | apply y_nil
    | (apply y_pick_t rfl rfl
       · conv => lhs; whnf
       · conv => lhs; whnf
       · first | exact bT1 (by assumption) | exact bT2 (by assumption))
    | (apply y_pick_f rfl rfl
       · conv => lhs; whnf
       · conv => lhs; whnf
       · first | exact bF1 (by assumption) | exact bF2 (by assumption))
    | (apply y_val rfl
       · conv => lhs; whnf
       · conv => lhs; whnf; arg 2; whnf)
    | (apply y_call rfl
       · conv => lhs; whnf
       · conv => lhs; whnf
       · first | exact hd2)
    | (apply y_store rfl rfl rfl
       · conv => lhs; whnf
       · rfl
       · rfl
       · conv => lhs; whnf; arg 1; whnf
       · conv => lhs; whnf; arg 1; whnf
       · exact ⟨by kernel_rfl, by kernel_rfl⟩
       · rfl)
    | (apply y_wanted_val rfl
       · conv => lhs; whnf
       · conv => lhs; whnf
       · first | rfl | assumption
       · conv => lhs; whnf; arg 2; whnf)
    | (apply y_wanted_call rfl
       · conv => lhs; whnf
       · conv => lhs; whnf
       · first | rfl | assumption
       · conv => lhs; whnf
       · first | exact hd2)
    | (apply y_skip rfl
       · conv => lhs; whnf
       · conv => lhs; whnf
       · first | rfl | assumption)
    | (apply y_guard_val rfl
       · conv => lhs; whnf
       · conv => lhs; whnf
       · conv => lhs; whnf; arg 2; whnf)
    | (apply y_guard_call rfl
       · conv => lhs; whnf
       · conv => lhs; whnf
       · conv => lhs; whnf
       · first | exact hd2)
    | exact apartB_none
    | exact apartB_nil
    | exact all_nil
    | (show List.all _ _ = true; rfl)
    | (show apartB _ _ = true; rfl)
    | exact ([] : List Nat)
    | exact (1000000 : Nat)
    | (apply aw_cond_t
       · conv => lhs; whnf; arg 1; arg 1; whnf)
    | (apply aw_cond_f
       · conv => lhs; whnf; arg 1; arg 1; whnf)
    | (refine aw_cond (by conv => lhs; whnf) ?_ ?_ <;> intro hb)
    | refine aw_ret ?_
    | refine aw_exit ?_
    | refine k_seq_exit ?_
    | refine k_seq_ret ?_
    | refine k_block_ret ?_
    | refine k_block_hit rfl ?_
    | refine k_block_miss rfl ?_
    | refine k_scope_exit ?_
    | refine k_scope_ret ?_
    | refine k_loop_exit ?_
    | refine k_loop_ret ?_
    | refine k_endB ⟨?_, ?_⟩
    | refine k_endB_ret ⟨?_, ?_⟩
    | exact (rfl : _ = V.tup [])
    | (refine ⟨_, by conv => lhs; whnf; arg 2; whnf, ?_⟩; conv => rhs; whnf)
    | exact trivial
    | intro hg)
    all_goals
      first
        | (have g : ((((atS s.data.toList X1).toNat : Int) != 48) == true) = false := by assumption
           have g48 : atS s.data.toList X1 = 48 := u8_eq (n := 48) (by simpa using g) (by decide)
           rw [stop0 g48]
           exact Sub.live ⟨rfl, rfl, trivial⟩ ⟨rfl, trivial⟩)
        | (have g : ((((atS s.data.toList X1).toNat : Int) != 48) == true) = true := by assumption
           have g48 : ¬ atS s.data.toList X1 = 48 := fun e => by rw [e] at g; exact absurd g (by decide)
           first
             | (have g2 : digU b = false := by assumption
                rw [stop g48 g2]
                exact Sub.live ⟨rfl, rfl, trivial⟩ ⟨rfl, trivial⟩)
             | (have g2 : digU b = true := by assumption
                have hl2 := hlt g2
                first
                  | exact i64_in2 (by dsimp only; omega)
                  | exact k_loop_next (j' := j - 1) (by omega) ⟨p + 1, by omega, by omega, by rw [← hdw]; exact (hstep g2).symm, fun h => (g48 h).elim, Sub.live ⟨rfl, rfl, rfl, trivial⟩ ⟨rfl, trivial⟩⟩))
set_option maxRecDepth 100000 in
theorem numberQ_acb (s : ByteArray) (x : JS) (hs : s.size ≤ 1000000000) (hp : x.p ≤ s.size) (he0 : x.e = 0) : ACB EN5 Tryd.prog 75 [.bx (pn 0) 0] [boxQ s x] (.c (.int .i64 (numbR s.data.toList x).1)) [boxQ s (numbR s.data.toList x).2] := by
  by_cases h : numC s.data.toList x
  · exact numberQ_bad s x hs hp h
  · exact numberQ_ok s x hs hp he0 h
end Go.Proofs.YtjhjleanihgopaaDoor
