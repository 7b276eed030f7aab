/- Parts of a proof, merged by a program (shake.py). -/
import Derived.Deep.Upon
import Derived.Test.YtjhjleanihgopaaDoorQ26
namespace Go.Proofs.YtjhjleanihgopaaDoor
open Go.RowKit
attribute [local irreducible] wpList Calls Code.wp
section
variable {X : Cx} {nn : Nat} {st : Vst nn} {o : Oper} {K : Vst nn → Prop} {ops : Array Oper} {l : List Oper} {d : Option Tmp} {KK : Vst nn → Prop}
set_option maxRecDepth 100000 in
theorem opOk_append_zero {t e : TypeId} {by_ k : Nat} {x y : Operand} {l1 : List D} (ho : o.op = .call { callee := .builtin .append, args := #[x, y], argTypes := #[t, t] }) (he : elemOk X.P t = some (e, by_))
    (hx : ev st x = .own k e l1) (hy : (ev st y).out = .sl e []) (hK : K (st.put o.dst (.own k e l1))) : OpOk X o st K := by
  intro s w a hI N Q hN
  obtain ⟨hu, hlay, i, z, hi, hz, hb, hsp, hzs, hsz⟩ := elemOk_ok he
  have hyr := rel.out _ _ (hI.ev y)
  rw [hy, rel] at hyr
  obtain ⟨k2, A2, c2, e2, -, -, -, -⟩ := hyr
  have hxr := hI.ev x
  have hxr2 := hxr
  rw [hx, rel] at hxr
  obtain ⟨⟨k1, A1, c1, e1, hle, -, -, -⟩, -, -⟩ := hxr
  have hrun : (Builtin.append_ #[t, t] o.type #[a.eval x, a.eval y]).run X.P w = .ok (a.eval x) w := by
    rw [e1, e2]
    refine run_append_nothing w t t o.type e i hu hi A1 l1.length c1 hle _ ?_
    exact ⟨.inl ⟨e, hu⟩, fun w' => by simp [Builtin.lenOf], by cases A2 <;> simp [Builtin.firstCells, loadCells, loadCellsFrom], by cases A2 <;> simp [Builtin.firstCells, loadCells, loadCellsFrom], by simp, by simp⟩
  unfold Oper.wp
  rw [run_append ho hrun, Oper.upon_value]
  exact hN _ _ _ _ (hI.put o.dst (by rw [← hx]; exact hxr2)) hK
set_option maxRecDepth 100000 in
theorem res_same {k : Nat} {ρ : Res} (h : st.rs k = some ρ) : st.res k ρ = st := by
  unfold Vst.res
  have e : updR st.rs k ρ = st.rs := by
    funext m
    unfold updR
    by_cases hm : m = k
    · subst hm; rw [if_pos rfl, h]
    · rw [if_neg hm]
  rw [e]
set_option maxRecDepth 100000 in
theorem s_app0 {t e : TypeId} {by_ k : Nat} {x y : Operand} {l1 l2 : List D} (hg : o.guard = none) (ho : o.op = .call { callee := .builtin .append, args := #[x, y], argTypes := #[t, t] }) (hd : o.dst = d) (he : elemOk X.P t = some (e, by_))
    (hleaf : ∀ d, (cellsV X.P 12 e d).all V.leaf = true) (hx : ev st x = .own k e l1) (hr : st.rs k = some (.tok e l1.length)) (hy : (ev st y).out = .sl e l2) (hK : AWo X ops l ((st.res k (.tok e (l1 ++ l2).length)).put d (.own k e (l1 ++ l2))) KK)
    (hp : l1.length + l2.length ≤ maxLen ∧ (l1.length + l2.length) * by_ ≤ 140737488355328) : AWo X ops (o :: l) st KK := by
  by_cases h : l2 = []
  · subst h
    rw [List.append_nil, res_same hr] at hK
    exact awo_cons hg (opOk_append_zero ho he hx hy (by rw [hd]; exact hK))
  · rw [List.length_append] at hK
    exact s_app hg ho hd he hleaf hx hr hy hK ⟨List.length_pos_iff.2 h, hp⟩
end
end Go.Proofs.YtjhjleanihgopaaDoor
namespace Go.Proofs.YtjhjleanihgopaaDoor
open Go.RowKit
attribute [local irreducible] wpList Calls Code.wp AW AWo OpOk seqK blockK scopeK loopK endK endKB AC ACB absLex Yld Sub
def hintD (h : Int × Bool) : D := .obj [.int h.1, .bool h.2]
def hintsD (l : List (Int × Bool)) : List D := l.map hintD
set_option maxRecDepth 100000 in
theorem hintsD_len (l : List (Int × Bool)) : (hintsD l).length = l.length := by simp [hintsD]
set_option maxRecDepth 100000 in
theorem elemHint : elemOk Tryd.prog 71 = some (32, 16) := by kernel_rfl
set_option maxRecDepth 100000 in
/-- the hints are not more than the picks -/
theorem hints_len (dl : List D) : ∀ (k : Nat) (l : List D) (outer : Int), (∀ i, i < l.length → Fits Tryd.prog k 63 (gD l i)) → (hintsL dl k l outer).length ≤ bulkL l
  | 0, l, outer, _ => by simp [hintsL]
  | k + 1, l, outer, hf => by
    have key : ∀ n, n ≤ l.length → (upto dl k l outer n).length ≤ ((List.range n).map fun i => bulkD (gD l i)).sum := fun n => by
      induction n with
      | zero => intro _; simp [upto]
      | succ n ih =>
        intro hn
        have h1 := ih (by omega)
        have hfn := hf n (by omega)
        have h2 := hints_len dl k ((gD l n).f 7).l (pickN dl outer (gD l n)) (pick_fits hfn)
        have h3 := pick_bulk2 hfn
        rw [upto_succ, List.length_append, List.range_succ, List.map_append, List.sum_append]
        simp only [List.map_cons, List.map_nil, List.sum_cons, List.sum_nil]
        by_cases ht : isTn ((gD l n).f 2).s = true
        · rw [hintsX_tn ht]; simp only [List.length_nil]; omega
        · rw [hintsX_no (by simpa using ht), List.length_cons]; omega
    rw [hints_upto]
    exact Nat.le_trans (key _ (Nat.le_refl _)) (by rw [bulk_sum]; exact Nat.le_refl _)
set_option maxRecDepth 100000 in
theorem sz2 {a b c q : List D} (h : a ++ b ++ c = q) (hl : q.length ≤ 100000000) : (a ++ b).length + c.length ≤ maxLen ∧ ((a ++ b).length + c.length) * 16 ≤ 140737488355328 := by
  rw [← List.length_append, h]; unfold maxLen; omega
set_option maxRecDepth 100000 in
theorem sz1 {a b c q : List D} (h : a ++ b ++ c = q) (hl : q.length ≤ 100000000) : a.length + b.length ≤ maxLen ∧ (a.length + b.length) * 16 ≤ 140737488355328 := by
  rw [← h, List.length_append, List.length_append] at hl; unfold maxLen; omega
set_option maxRecDepth 100000 in
theorem own_fst (dl : List D) (x : D) : (own3 dl x).1 = (fieldV dl (x.f 1).s (x.f 2).s).1 := by rw [← own_field]; rfl
set_option maxRecDepth 100000 in
theorem own_sec (dl : List D) (x : D) : (own3 dl x).2.2 = (fieldV dl (x.f 1).s (x.f 2).s).2 := by rw [← own_field]; rfl
set_option maxRecDepth 100000 in
theorem hintsD_no {dl : List D} {k : Nat} {l : List D} {outer n : Int} {i : Nat} (ht : isTn ((gD l i).f 2).s = false) (hP : pickN dl outer (gD l i) = n) :
    hintsD (upto dl k l outer i) ++ [hintD (n, (fieldV dl ((gD l i).f 1).s ((gD l i).f 2).s).2)] ++ hintsD (hintsL dl k ((gD l i).f 7).l n) = hintsD (upto dl k l outer (i + 1)) := by
  rw [upto_succ, hintsX_no ht, hP, own_sec]
  unfold hintsD
  rw [List.map_append, List.map_cons, List.append_assoc]
  rfl
set_option maxRecDepth 100000 in
theorem hintsD_tn {dl : List D} {k : Nat} {l : List D} {outer : Int} {i : Nat} (ht : isTn ((gD l i).f 2).s = true) : hintsD (upto dl k l outer i) = hintsD (upto dl k l outer (i + 1)) := by
  rw [upto_succ, hintsX_tn ht, List.append_nil]
noncomputable def HL (d : D) (l : List D) (outer : Int) (hs : List (Int × Bool)) (i : Nat) : Vst 64 :=
  stS 64 [(1, .sl 63 l), (2, .c (.int .i64 outer)), (3, .bx 3 0), (7, .own 7 32 (hintsD hs)), (8, .c (.int .i64 i))]
    [(3, .box 24 (cellsV Tryd.prog 12 24 d)), (7, .tok 32 (hintsD hs).length)]
set_option maxHeartbeats 4000000 in
set_option maxRecDepth 100000 in
theorem list_core (d : D) (k : Nat) (l : List D) (outer : Int) (hn : bulkL l ≤ 100000000) (hlen : ∀ i, i ≤ l.length → (upto (d.f 0).l k l outer i).length ≤ 100000000)
    (ih : ∀ i, i < l.length → ∀ (outer : Int), AC EN5 Tryd.prog 30 [.agg (cellsV Tryd.prog 12 24 d), .sl 63 ((gD l i).f 7).l, .c (.int .i64 outer)] (.sl 32 (hintsD (hintsL (d.f 0).l k ((gD l i).f 7).l outer)))) :
    AC EN5 Tryd.prog 30 [.agg (cellsV Tryd.prog 12 24 d), .sl 63 l, .c (.int .i64 outer)] (.sl 32 (hintsD (upto (d.f 0).l k l outer l.length))) := by
  have ho := ownR_ac d
  have hF := fieldR_ac d
  have hll := bulkL_len l
  refine ac_enter 64 Tryd.func30 rfl rfl rfl rfl ?_
  intro s w he
  repeat' (first
    | refine aw_seq ?_
    | refine aw_region ?_
    | refine awo_nil ?_
    | refine k_seq ?_
    | refine k_block ?_
    | refine k_scope ?_
    | refine aw_block ?_
    | refine aw_skip ?_
    | refine aw_label ?_
    | refine aw_scope ?_
    | (apply s_pick_t rfl rfl
       · conv => lhs; whnf
       · conv => lhs; whnf
       · first | exact bT1 (by assumption) | exact bT2 (by assumption))
    | (apply s_pick_f rfl rfl
       · conv => lhs; whnf
       · conv => lhs; whnf
       · first | exact bF1 (by assumption) | exact bF2 (by assumption))
    | (apply s_val rfl
       · conv => lhs; whnf
       · conv => lhs; whnf; arg 2; whnf)
    | (apply s_call rfl
       · conv => lhs; whnf
       · conv => lhs; whnf
       · first | fail)
    | (apply s_box rfl rfl rfl rfl
       · conv => lhs; whnf; arg 1; whnf
       · rfl)
    | (apply s_alloc rfl rfl rfl rfl
       · conv => lhs; whnf; arg 1; whnf
       · rfl)
    | (apply s_store rfl rfl rfl
       · conv => lhs; whnf
       · conv => lhs; whnf; arg 1; whnf
       · conv => lhs; whnf; arg 1; whnf
       · exact ⟨by kernel_rfl, by kernel_rfl⟩
       · rfl)
    | (apply s_app rfl rfl
       · conv => lhs; whnf
       · first | (conv => lhs; whnf; arg 1; whnf)
       · first | exact fun _ => rfl | (intro _; kernel_rfl)
       · conv => lhs; whnf
       · conv => lhs; whnf; arg 1; whnf
       · conv => lhs; whnf)
    | (apply s_app_nil rfl rfl rfl rfl
       · first | (conv => lhs; whnf; arg 1; whnf)
       · first | exact fun _ => rfl | (intro _; kernel_rfl)
       · conv => lhs; whnf
       · conv => lhs; whnf)
    | (apply s_lit0 rfl rfl
       · conv => lhs; whnf
       · first | (conv => lhs; whnf; arg 1; whnf))
    | (apply s_lit1 rfl rfl
       · conv => lhs; whnf
       · first | (conv => lhs; whnf; arg 1; whnf)
       · conv => lhs; whnf; arg 1; whnf
       · rfl
       · rfl)
    | (apply s_onlit rfl rfl
       · conv => lhs; whnf
       · first | (conv => lhs; whnf; arg 1; whnf)
       · first | exact fun _ => rfl | (intro _; kernel_rfl)
       · conv => lhs; whnf
       · conv => lhs; whnf)
    | (apply s_wanted_val rfl
       · conv => lhs; whnf
       · conv => lhs; whnf
       · first | rfl | assumption
       · conv => lhs; whnf; arg 2; whnf)
    | (apply s_wanted_call rfl
       · conv => lhs; whnf
       · conv => lhs; whnf
       · first | rfl | assumption
       · conv => lhs; whnf
       · first | fail)
    | (apply s_skip rfl
       · conv => lhs; whnf
       · conv => lhs; whnf
       · first | rfl | assumption)
    | (apply s_guard_val rfl
       · conv => lhs; whnf
       · conv => lhs; whnf
       · conv => lhs; whnf; arg 2; whnf)
    | (apply s_guard_call rfl
       · conv => lhs; whnf
       · conv => lhs; whnf
       · conv => lhs; whnf
       · first | fail)
    | (apply aw_cond_t
       · conv => lhs; whnf; arg 1; arg 1; whnf)
    | (apply aw_cond_f
       · conv => lhs; whnf; arg 1; arg 1; whnf)
    | (refine aw_cond (by conv => lhs; whnf) ?_ ?_ <;> intro hb)
    | refine aw_ret ?_
    | refine aw_exit ?_
    | refine k_seq_exit ?_
    | refine k_seq_ret ?_
    | refine k_block_ret ?_
    | refine k_block_hit rfl ?_
    | refine k_block_miss rfl ?_
    | refine k_scope_exit ?_
    | refine k_scope_ret ?_
    | refine k_loop_exit ?_
    | refine k_loop_ret ?_
    | refine k_end ?_
    | refine k_end_ret ?_
    | (refine ⟨_, by conv => lhs; whnf; arg 2; whnf, ?_⟩; conv => rhs; whnf)
    | exact trivial
    | intro hg)
  refine aw_sub (Sub.own (t := 7) (e := 32) rfl rfl) ?_
  refine aw_loop (fun j st => ∃ i, i + j = l.length ∧ Sub (cx EN5 Tryd.prog s w he) st (HL d l outer (upto (d.f 0).l k l outer i) i)) l.length ⟨0, by omega, ?_⟩ ?_
  · exact Sub.live ⟨rfl, rfl, rfl, rfl, rfl, trivial⟩ ⟨rfl, rfl, trivial⟩
  · rintro j st ⟨i, hij, hs2⟩
    refine aw_sub hs2 ?_
    clear hs2
    have ih2 := fun (h : decide ((i : Int) < (l.length : Int)) = true) => ih i (by simpa using h)
    have hl1 := hlen i (by omega)
    repeat' (first
    | (apply s_lit [hintD (outer, (fieldV (d.f 0).l ((gD l i).f 1).s ((gD l i).f 2).s).2)] rfl rfl
       · conv => lhs; whnf
       · first | exact elemHint | (conv => lhs; whnf; arg 1; whnf)
       · rfl
       · rfl
       · repeat' (first | exact trivial | apply And.intro | rfl))
    | (apply s_lit [hintD (fieldV (d.f 0).l ((gD l i).f 1).s ((gD l i).f 2).s)] rfl rfl
       · conv => lhs; whnf
       · first | exact elemHint | (conv => lhs; whnf; arg 1; whnf)
       · rfl
       · rfl
       · repeat' (first | exact trivial | apply And.intro | rfl))
    | (apply s_app0 rfl rfl
       · conv => lhs; whnf
       · first | exact elemHint | (conv => lhs; whnf; arg 1; whnf)
       · first | exact fun _ => rfl | (intro _; kernel_rfl)
       · conv => lhs; whnf
       · conv => lhs; whnf; arg 1; whnf
       · conv => lhs; whnf)
    | refine aw_seq ?_
    | refine aw_region ?_
    | refine awo_nil ?_
    | refine k_seq ?_
    | refine k_block ?_
    | refine k_scope ?_
    | refine aw_block ?_
    | refine aw_skip ?_
    | refine aw_label ?_
    | refine aw_scope ?_
    | (apply s_pick_t rfl rfl
       · conv => lhs; whnf
       · conv => lhs; whnf
       · first | exact bT1 (by assumption) | exact bT2 (by assumption))
    | (apply s_pick_f rfl rfl
       · conv => lhs; whnf
       · conv => lhs; whnf
       · first | exact bF1 (by assumption) | exact bF2 (by assumption))
    | (apply s_val rfl
       · conv => lhs; whnf
       · conv => lhs; whnf; arg 2; whnf)
    | (apply s_call rfl
       · conv => lhs; whnf
       · conv => lhs; whnf
       · first | exact ho _ _ | exact hF _ _ | exact ih2 (by assumption) _)
    | (apply s_box rfl rfl rfl rfl
       · conv => lhs; whnf; arg 1; whnf
       · rfl)
    | (apply s_alloc rfl rfl rfl rfl
       · conv => lhs; whnf; arg 1; whnf
       · rfl)
    | (apply s_store rfl rfl rfl
       · conv => lhs; whnf
       · conv => lhs; whnf; arg 1; whnf
       · conv => lhs; whnf; arg 1; whnf
       · exact ⟨by kernel_rfl, by kernel_rfl⟩
       · rfl)
    | (apply s_app rfl rfl
       · conv => lhs; whnf
       · first | exact elemHint | (conv => lhs; whnf; arg 1; whnf)
       · first | exact fun _ => rfl | (intro _; kernel_rfl)
       · conv => lhs; whnf
       · conv => lhs; whnf; arg 1; whnf
       · conv => lhs; whnf)
    | (apply s_app_nil rfl rfl rfl rfl
       · first | exact elemHint | (conv => lhs; whnf; arg 1; whnf)
       · first | exact fun _ => rfl | (intro _; kernel_rfl)
       · conv => lhs; whnf
       · conv => lhs; whnf)
    | (apply s_lit0 rfl rfl
       · conv => lhs; whnf
       · first | exact elemHint | (conv => lhs; whnf; arg 1; whnf))
    | (apply s_lit1 rfl rfl
       · conv => lhs; whnf
       · first | exact elemHint | (conv => lhs; whnf; arg 1; whnf)
       · conv => lhs; whnf; arg 1; whnf
       · rfl
       · rfl)
    | (apply s_onlit rfl rfl
       · conv => lhs; whnf
       · first | exact elemHint | (conv => lhs; whnf; arg 1; whnf)
       · first | exact fun _ => rfl | (intro _; kernel_rfl)
       · conv => lhs; whnf
       · conv => lhs; whnf)
    | (apply s_wanted_val rfl
       · conv => lhs; whnf
       · conv => lhs; whnf
       · first | rfl | assumption
       · conv => lhs; whnf; arg 2; whnf)
    | (apply s_wanted_call rfl
       · conv => lhs; whnf
       · conv => lhs; whnf
       · first | rfl | assumption
       · conv => lhs; whnf
       · first | exact ho _ _ | exact hF _ _ | exact ih2 (by assumption) _)
    | (apply s_skip rfl
       · conv => lhs; whnf
       · conv => lhs; whnf
       · first | rfl | assumption)
    | (apply s_guard_val rfl
       · conv => lhs; whnf
       · conv => lhs; whnf
       · conv => lhs; whnf; arg 2; whnf)
    | (apply s_guard_call rfl
       · conv => lhs; whnf
       · conv => lhs; whnf
       · conv => lhs; whnf
       · first | exact ho _ _ | exact hF _ _ | exact ih2 (by assumption) _)
    | (apply aw_cond_t
       · conv => lhs; whnf; arg 1; arg 1; whnf)
    | (apply aw_cond_f
       · conv => lhs; whnf; arg 1; arg 1; whnf)
    | (refine aw_cond (by conv => lhs; whnf) ?_ ?_ <;> intro hb)
    | refine aw_ret ?_
    | refine aw_exit ?_
    | refine k_seq_exit ?_
    | refine k_seq_ret ?_
    | refine k_block_ret ?_
    | refine k_block_hit rfl ?_
    | refine k_block_miss rfl ?_
    | refine k_scope_exit ?_
    | refine k_scope_ret ?_
    | refine k_loop_exit ?_
    | refine k_loop_ret ?_
    | refine k_end ?_
    | refine k_end_ret ?_
    | (refine ⟨_, by conv => lhs; whnf; arg 2; whnf, ?_⟩; conv => rhs; whnf)
    | exact trivial
    | intro hg)
    all_goals try (exact i64_in (by omega))
    all_goals try (exact (⟨by omega, by have h : decide ((i : Int) < (l.length : Int)) = true := by assumption
                                        simp at h; omega⟩ : 0 ≤ (i : Int) ∧ (i : Int) < (l.length : Int)))
    rotate_right 1
    · have e : i = l.length := by have h : decide ((i : Int) < (l.length : Int)) = false := by assumption
                                  simp at h; omega
      rw [e]
    all_goals
      have hlt : i < l.length := by have h : decide ((i : Int) < (l.length : Int)) = true := by assumption
                                    simpa using h
      have hl2 := hlen (i + 1) (by omega)
      rw [← hintsD_len] at hl2
    · have hq := hintsD_tn (dl := (d.f 0).l) (k := k) (l := l) (outer := outer) (i := i) (by assumption)
      exact k_loop_next (j' := j - 1) (by omega) ⟨i + 1, by omega, Sub.live ⟨rfl, rfl, rfl, congrArg (V.own 7 _) hq, rfl, trivial⟩ ⟨rfl, congrArg (fun l : List D => some (Res.tok 32 l.length)) hq, trivial⟩⟩
    all_goals
      have ht : isTn ((gD l i).f 2).s = false := by assumption
      first
        | have hP : pickN (d.f 0).l outer (gD l i) = outer := pickN_leaf (by assumption) (by assumption)
        | have hP : pickN (d.f 0).l outer (gD l i) = (fieldV (d.f 0).l ((gD l i).f 1).s ((gD l i).f 2).s).1 := (pickN_in (by assumption)).trans (own_fst _ _)
        | have hP : pickN (d.f 0).l outer (gD l i) = (fieldV (d.f 0).l ((gD l i).f 1).s ((gD l i).f 2).s).1 := (pickN_is (by assumption)).trans (own_fst _ _)
      have hq := hintsD_no (k := k) ht hP
      first
        | exact k_loop_next (j' := j - 1) (by omega) ⟨i + 1, by omega, Sub.live ⟨rfl, rfl, rfl, congrArg (V.own 7 _) hq, rfl, trivial⟩ ⟨rfl, congrArg (fun l : List D => some (Res.tok 32 l.length)) hq, trivial⟩⟩
        | exact sz2 hq hl2
        | exact sz1 hq hl2
end Go.Proofs.YtjhjleanihgopaaDoor
namespace Go.Proofs.YtjhjleanihgopaaDoor
open Go.RowKit
attribute [local irreducible] wpList Calls Code.wp
section
variable {X : Cx} {nn : Nat} {st : Vst nn} {ops : Array Oper} {ws : List Nat} {wi : Nat}
/-- what is listed has all that it waits for listed -/
def Closed (ops : Array Oper) (listed : Array Bool) : Prop := ∀ k o, ops[k]? = some o → listed.getD k false = true → ∀ e ∈ o.after, Region.binds .any e = true → listed.getD e.on false = true
set_option maxRecDepth 100000 in
theorem Closed.set {listed : Array Bool} {j : Nat} (h : Closed ops listed) (hj : j ∈ Region.ready .any ops listed) : Closed ops (listed.setIfInBounds j true) := by
  intro k o ho hk e he hb
  obtain ⟨-, oj, hoj, hall⟩ := mem_ready.1 hj
  by_cases hkj : k = j
  · subst hkj
    rw [hoj] at ho; cases ho
    exact getD_set_true (hall e he hb)
  · rw [getD_set_ne false (fun e => hkj e.symm)] at hk
    exact getD_set_true (h k o ho hk e he hb)
def waits (ops : Array Oper) (k : Nat) : List Nat := match ops[k]? with | some o => (o.after.toList.filter fun e => Region.binds .any e).map (·.on) | none => []
def reachS (ops : Array Oper) : Nat → List Nat → List Nat
  | 0, S => S
  | n + 1, S => reachS ops n (S ++ (S.flatMap (waits ops)).filter fun k => !S.contains k)
set_option maxRecDepth 100000 in
theorem waits_ok {listed : Array Bool} (h : Closed ops listed) {q k : Nat} (hq : listed.getD q false = true) (hk : k ∈ waits ops q) : listed.getD k false = true := by
  unfold waits at hk
  split at hk
  · rename_i o ho
    obtain ⟨e, he, rfl⟩ := List.mem_map.1 hk
    obtain ⟨h1, h2⟩ := List.mem_filter.1 he
    exact h q o ho hq e (by simpa using h1) h2
  · simp at hk
set_option maxRecDepth 100000 in
theorem reach_ok {listed : Array Bool} (h : Closed ops listed) : ∀ (n : Nat) (S : List Nat), (∀ k ∈ S, listed.getD k false = true) → ∀ k ∈ reachS ops n S, listed.getD k false = true
  | 0, S, hS, k, hk => hS k hk
  | n + 1, S, hS, k, hk => by
    refine reach_ok h n _ (fun q hq => ?_) k hk
    rcases List.mem_append.1 hq with hq | hq
    · exact hS q hq
    · obtain ⟨h1, -⟩ := List.mem_filter.1 hq
      obtain ⟨p, hp, h2⟩ := List.mem_flatMap.1 h1
      exact waits_ok h (hS p hp) h2
def lastB (ops : Array Oper) (wi : Nat) : Bool := (List.range ops.size).all fun i => i == wi || (reachS ops ops.size (waits ops wi)).contains i
set_option maxRecDepth 100000 in
theorem last_ok {listed : Array Bool} (hB : lastB ops wi = true) (hc : Closed ops listed) (hr : wi ∈ Region.ready .any ops listed) {i : Nat} (hi : i ≠ wi) (hs : i < ops.size) : listed.getD i false = true := by
  have h1 := List.all_eq_true.1 hB i (List.mem_range.2 hs)
  rw [Bool.or_eq_true] at h1
  rcases h1 with h1 | h1
  · exact absurd (by simpa using h1) hi
  · refine reach_ok hc _ _ (fun k hk => ?_) i (by simpa using h1)
    obtain ⟨-, o, ho, hall⟩ := mem_ready.1 hr
    unfold waits at hk
    rw [ho] at hk
    obtain ⟨e, he, rfl⟩ := List.mem_map.1 hk
    obtain ⟨h2, h3⟩ := List.mem_filter.1 he
    exact hall e (by simpa using h2) h3
set_option maxRecDepth 100000 in
theorem listed_both {listed : Array Bool} {i : Nat} (h0 : listed.getD i true = false) (h1 : listed.getD i false = true) : False := by
  rw [Array.getD_eq_getD_getElem?] at h0 h1
  cases h : listed[i]? with
  | none => rw [h] at h0; simp at h0
  | some b => rw [h] at h0 h1; simp at h0 h1; rw [h0] at h1; cases h1
def aOp2 (X : Cx) (ops : Array Oper) (ws : List Nat) (wi i : Nat) (K : Vst nn → Prop) (st : Vst nn) : Prop := aOp X ops (if i = wi then ws else []) wi i K st
def absAny2 (X : Cx) (ops : Array Oper) (ws : List Nat) (wi : Nat) (Q : Vst nn → Prop) : Nat → Array Bool → Vst nn → Prop
  | 0, listed, st => Region.ready .any ops listed = [] ∧ Q st
  | fuel + 1, listed, st => (Region.ready .any ops listed = [] → Q st) ∧ ∀ i ∈ Region.ready .any ops listed, aOp2 X ops ws wi i (absAny2 X ops ws wi Q fuel (listed.setIfInBounds i true)) st
set_option maxRecDepth 100000 in
theorem absAny2_first {Q : Vst nn → Prop} {i : Nat} {oi : Oper} {v : V} {u : List (Nat × Res)} (hi : ops[i]? = some oi) (hiw : i ≠ wi) (hB : lastB ops wi = true) :
    ∀ (fuel : Nat) (listed : Array Bool) (st : Vst nn),
      (∀ j oj, ops[j]? = some oj → j ≠ i → listed.getD j true = false → (∀ e ∈ oj.after, Region.binds .any e = true → e.on ≠ i) → oi.apart ops oj = true) → Closed ops listed →
      i ∈ Region.ready .any ops listed → Yld X ops [] (i == wi) oi st v u →
      absAny2 X ops ws wi Q fuel (listed.setIfInBounds i true) (stp st oi.dst v u) → absAny2 X ops ws wi Q (fuel + 1) listed st := by
  intro fuel
  induction fuel with
  | zero =>
    intro listed st _ _ hr hy H
    refine ⟨fun h => (by rw [h] at hr; cases hr), fun j hj => ?_⟩
    by_cases hji : j = i
    · subst hji; unfold aOp2 aOp; simp only [hi, if_neg hiw]; exact ⟨v, u, hy, H⟩
    · have := ready_mono hj hji
      rw [H.1] at this
      cases this
  | succ fuel ih =>
    intro listed st hfree hcl hr hy H
    refine ⟨fun h => (by rw [h] at hr; cases hr), fun j hj => ?_⟩
    by_cases hji : j = i
    · subst hji; unfold aOp2 aOp; simp only [hi, if_neg hiw]; exact ⟨v, u, hy, H⟩
    by_cases hjw : j = wi
    · exfalso
      subst hjw
      exact listed_both (mem_ready.1 hr).1 (last_ok hB hcl hj hiw (Array.getElem?_eq_some_iff.1 hi).1)
    · have h1 := H.2 j (ready_mono hj hji)
      unfold aOp2 at h1 ⊢
      rw [if_neg hjw] at h1 ⊢
      obtain ⟨hjun, oj, hoj, hall⟩ := mem_ready.1 hj
      have hnot : ∀ e ∈ oj.after, Region.binds .any e = true → e.on ≠ i := fun e he hb heq => by
        have h1 := hall e he hb
        rw [heq] at h1
        exact listed_both (mem_ready.1 hr).1 h1
      have h2 := aOp_put (ws := []) (wi := wi) (i := i) hoj (hfree j oj hoj hji hjun hnot) (Ne.symm hji) hy h1
      have hfree' : ∀ k ok, ops[k]? = some ok → k ≠ i → (listed.setIfInBounds j true).getD k true = false →
          (∀ e ∈ ok.after, Region.binds .any e = true → e.on ≠ i) → oi.apart ops ok = true := fun k ok hk hki hun hno => by
        refine hfree k ok hk hki ?_ hno
        by_cases hjk : j = k
        · subst hjk; exact hjun
        · rw [getD_set_ne true hjk] at hun; exact hun
      refine aOp_mono (fun st' h3 => ih (listed.setIfInBounds j true) st' hfree' (hcl.set hj) (ready_mono hr (Ne.symm hji)) h3.1 ?_) h2
      rw [Array.setIfInBounds_comm _ _ hji]
      exact h3.2
def absLex2 (X : Cx) (ops : Array Oper) (ws : List Nat) (wi : Nat) (Q : Vst nn → Prop) : Nat → List Oper → Vst nn → Prop
  | _, [], st => Q st
  | k, o :: rest, st => ∃ v u, Yld X ops (if k = wi then ws else []) (k == wi) o st v u ∧ absLex2 X ops ws wi Q (k + 1) rest (stp st o.dst v u)
set_option maxRecDepth 100000 in
theorem absAny2_lex {Q : Vst nn → Prop} (hL : lastB ops wi = true) : ∀ (l : List Oper) (k : Nat) (listed : Array Bool) (st : Vst nn), (∀ j, l[j]? = ops[k + j]?) →
    Region.lexFrom .any ops l.length k listed = true → Closed ops listed → absLex2 X ops ws wi Q k l st → absAny2 X ops ws wi Q l.length listed st
  | [], _, _, _, _, hB, _, h => ⟨by simpa [Region.lexFrom] using hB, h⟩
  | o :: l, k, listed, st, hl, hB, hcl, h => by
    have h0 : ops[k]? = some o := by simpa using (hl 0).symm
    simp only [List.length_cons, Region.lexFrom, Bool.and_eq_true] at hB
    obtain ⟨⟨hr, hf⟩, hB'⟩ := hB
    have hr : k ∈ Region.ready .any ops listed := by simpa using hr
    obtain ⟨v, u, hy, hK⟩ := h
    have hrest := absAny2_lex hL l (k + 1) _ _ (fun j => by have := hl (j + 1); simpa [Nat.add_assoc, Nat.add_comm 1 j] using this) hB' (hcl.set hr) hK
    by_cases hkw : k = wi
    · subst hkw
      refine ⟨fun h => (by rw [h] at hr; cases hr), fun j hj => ?_⟩
      by_cases hjk : j = k
      · subst hjk; rw [if_pos rfl] at hy; unfold aOp2 aOp; simp only [h0, if_true]; exact ⟨v, u, hy, hrest⟩
      · exfalso
        have hjs : j < ops.size := by
          obtain ⟨-, oj, hoj, -⟩ := mem_ready.1 hj
          exact (Array.getElem?_eq_some_iff.1 hoj).1
        exact listed_both (mem_ready.1 hj).1 (last_ok hL hcl hr hjk hjs)
    · rw [if_neg hkw] at hy
      exact absAny2_first h0 hkw hL l.length listed st (Region.free_spec h0 hf) hcl hr hy hrest
set_option maxRecDepth 100000 in
theorem wpAny_of_abs2 {Q : Vst nn → Prop} {Q' : Exit → Act → World → Prop} (hQ : ∀ st' s' w' a', Inv X st' s' w' a' → Q st' → Q' .normal a' w') : ∀ (fuel : Nat) (listed : Array Bool) (st : Vst nn) (s : Sg) (w : World) (a : Act), Inv X st s w a →
    absAny2 X ops ws wi Q fuel listed st → wpAny X.P .any ops Q' fuel listed a w
  | 0, _, _, _, _, _, hI, h => ⟨h.1, hQ _ _ _ _ hI h.2⟩
  | fuel + 1, listed, st, s, w, a, hI, h => ⟨fun h0 => hQ _ _ _ _ hI (h.1 h0), fun i hi => by
    have h1 := h.2 i hi
    unfold aOp2 aOp at h1
    unfold wpOp
    cases ho : ops[i]? with
    | none =>
      simp only [ho] at h1 ⊢
      exact wpAny_of_abs2 hQ fuel _ st s w a hI h1
    | some o =>
      simp only [ho] at h1 ⊢
      obtain ⟨v, u, hy, hK⟩ := h1
      rcases hy with ⟨hg, hy⟩ | ⟨hg, rfl, rfl⟩
      · rw [if_pos (gw_ok hg hI)]
        exact .inl (opOk_yld (K := absAny2 X ops ws wi Q fuel (listed.setIfInBounds i true)) hy hK s w a hI _ _ fun st' s' w' a' hI' hK' => wpAny_of_abs2 hQ fuel _ st' s' w' a' hI' hK')
      · rw [if_neg (by rw [gw_ok hg hI]; simp)]
        exact wpAny_of_abs2 hQ fuel _ _ s w (a.put o.dst undef) (hI.put o.dst (by simp [rel])) hK⟩
set_option maxRecDepth 100000 in
theorem lex_two {Q : Vst nn → Prop} : ∀ (l : List Oper) (k : Nat) (st : Vst nn) (r : List Oper), k + l.length ≤ 1000000 → wi = k + l.length →
    absLex X ops [] 1000000 (fun st' => absLex X ops ws wi Q wi r st') k l st → (∀ st', absLex X ops ws wi Q wi r st' → absLex2 X ops ws wi Q wi r st') → absLex2 X ops ws wi Q k (l ++ r) st
  | [], k, st, r, _, hw, h, hr => by
    have e : wi = k := by simpa using hw
    have h2 : absLex X ops ws wi Q wi r st := h
    rw [← e]; exact hr st h2
  | o :: l, k, st, r, hk, hw, h, hr => by
    obtain ⟨v, u, hy, hK⟩ := h
    simp only [List.length_cons] at hk hw
    have e1 : (k == 1000000) = false := by simp; omega
    have e2 : (k == wi) = false := by simp; omega
    rw [e1] at hy
    exact ⟨v, u, by rw [if_neg (by omega), e2]; exact hy, lex_two l (k + 1) _ r (by omega) (by omega) hK hr⟩
set_option maxRecDepth 100000 in
theorem aw_draw2 {id : Nat} {l : List Oper} {K : Exit → Vst nn → Prop} (hm : X.P.follows .mixedOrders = true) (hB : Region.lexB .any l.toArray = true) (hn : wi + 1 = l.length) (hs : Nat.ble l.length 1000000 = true) (hL : lastB l.toArray wi = true)
    (h : absLex X l.toArray [] 1000000 (fun st' => absLex X l.toArray ws wi (K .normal) wi (l.drop wi) st') 0 (l.take wi) st) : AW X (.region id l.toArray true) st K := fun s w a hI => by
  simp only [Region.lexB, Bool.and_eq_true] at hB
  refine wp_region_any hm (wpAny_of_abs2 (ws := ws) (wi := wi) (Q := K .normal) (fun st' s' w' a' hI' hK => ⟨st', s', hI', hK⟩) _ _ st s _ a hI.drew ?_)
  have hs := Nat.le_of_ble_eq_true hs
  have hlen : (l.take wi).length = wi := by rw [List.length_take]; omega
  have h2 := lex_two (l.take wi) 0 st (l.drop wi) (by omega) (by omega) h fun st' hh => by
    have hd : ∃ o, l.drop wi = [o] := by
      cases hd : l.drop wi with
      | nil => have := congrArg List.length hd; rw [List.length_drop] at this; simp at this; omega
      | cons o r =>
        have := congrArg List.length hd
        rw [List.length_drop, List.length_cons] at this
        have hr : r = [] := List.eq_nil_of_length_eq_zero (by omega)
        exact ⟨o, by rw [hr]⟩
    obtain ⟨o, hd⟩ := hd
    rw [hd] at hh ⊢
    obtain ⟨v, u, hy, hK⟩ := hh
    exact ⟨v, u, by rw [if_pos rfl]; exact hy, hK⟩
  rw [List.take_append_drop] at h2
  have hc0 : Closed l.toArray (Array.replicate l.toArray.size false) := fun k o _ hk => by
    rw [Array.getD_eq_getD_getElem?] at hk
    simp only [Array.getElem?_replicate] at hk
    split at hk <;> cases hk
  have := absAny2_lex (X := X) (ws := ws) (wi := wi) (Q := K .normal) hL l 0 (Array.replicate l.toArray.size false) st (by simp) (by simpa using hB.2) hc0 h2
  simpa using this
end
end Go.Proofs.YtjhjleanihgopaaDoor
namespace Go.Proofs.YtjhjleanihgopaaDoor
open Go.RowKit
attribute [local irreducible] wpList Calls Code.wp AW AWo OpOk seqK blockK scopeK loopK endK endKB AC ACB absLex Yld Sub
set_option maxRecDepth 100000 in
theorem list_ac (d : D) : ∀ (k : Nat) (l : List D) (outer : Int), (∀ i, i < l.length → Fits Tryd.prog k 63 (gD l i)) → bulkL l ≤ 100000000 →
    AC EN5 Tryd.prog 30 [.agg (cellsV Tryd.prog 12 24 d), .sl 63 l, .c (.int .i64 outer)] (.sl 32 (hintsD (hintsL (d.f 0).l k l outer)))
  | 0, l, outer, hf, hb => by
    have e : l = [] := by
      cases l with
      | nil => rfl
      | cons x r => exact (hf 0 (Nat.succ_pos _)).elim
    subst e
    exact list_core d 0 [] outer hb (fun i hi => by have : i = 0 := by simpa using hi
                                                    subst this; simp [upto]) fun i hi => absurd hi (Nat.not_lt_zero _)
  | k + 1, l, outer, hf, hb => by
    have hl := hints_len (d.f 0).l (k + 1) l outer hf
    rw [hints_upto] at hl ⊢
    refine list_core d k l outer hb (fun i hi => ?_) fun i hi outer => list_ac d k _ outer (pick_fits (hf i hi)) (by have := bulk_at hi; have := pick_bulk (hf i hi); omega)
    have hm : (upto (d.f 0).l k l outer i).length ≤ (upto (d.f 0).l k l outer l.length).length := by
      obtain ⟨m, hm⟩ := Nat.exists_eq_add_of_le hi
      rw [hm]
      clear hm hl
      induction m with
      | zero => exact Nat.le_refl _
      | succ m ih =>
        have e : i + (m + 1) = (i + m) + 1 := rfl
        rw [e, upto_succ, List.length_append]
        omega
    omega
def joinV (a b : Int × Bool) : Int × Bool := (if b.1 < a.1 then b.1 else a.1, a.2 || b.2)
set_option maxRecDepth 100000 in
theorem joinRv_ac (a b : Int) (p q : Bool) : AC EN5 Tryd.prog 31 [.agg [.c (.int .i64 a), .c (.bool p)], .agg [.c (.int .i64 b), .c (.bool q)]] (.agg [.c (.int .i64 (joinV (a, p) (b, q)).1), .c (.bool (joinV (a, p) (b, q)).2)]) := by
  refine ac_enter 17 Tryd.func31 rfl rfl rfl rfl ?_
  intro s w he
  repeat' (first
    | refine aw_seq ?_
    | refine aw_region ?_
    | refine awo_nil ?_
    | refine k_seq ?_
    | refine k_block ?_
    | refine k_scope ?_
    | refine aw_block ?_
    | refine aw_skip ?_
    | refine aw_label ?_
    | refine aw_scope ?_
    | (apply s_pick_t rfl rfl
       · conv => lhs; whnf
       · conv => lhs; whnf
       · first | exact bT1 (by assumption) | exact bT2 (by assumption))
    | (apply s_pick_f rfl rfl
       · conv => lhs; whnf
       · conv => lhs; whnf
       · first | exact bF1 (by assumption) | exact bF2 (by assumption))
    | (apply s_val rfl
       · conv => lhs; whnf
       · conv => lhs; whnf; arg 2; whnf)
    | (apply s_box rfl rfl rfl rfl
       · conv => lhs; whnf; arg 1; whnf
       · rfl)
    | (apply s_alloc rfl rfl rfl rfl
       · conv => lhs; whnf; arg 1; whnf
       · rfl)
    | (apply s_store rfl rfl rfl
       · conv => lhs; whnf
       · conv => lhs; whnf; arg 1; whnf
       · conv => lhs; whnf; arg 1; whnf
       · exact ⟨by kernel_rfl, by kernel_rfl⟩
       · rfl)
    | (apply s_wanted_val rfl
       · conv => lhs; whnf
       · conv => lhs; whnf
       · first | rfl | assumption
       · conv => lhs; whnf; arg 2; whnf)
    | (apply s_wanted_call rfl
       · conv => lhs; whnf
       · conv => lhs; whnf
       · first | rfl | assumption
       · conv => lhs; whnf
       · first | fail)
    | (apply s_skip rfl
       · conv => lhs; whnf
       · conv => lhs; whnf
       · first | rfl | assumption)
    | (apply s_guard_val rfl
       · conv => lhs; whnf
       · conv => lhs; whnf
       · conv => lhs; whnf; arg 2; whnf)
    | (apply s_guard_call rfl
       · conv => lhs; whnf
       · conv => lhs; whnf
       · conv => lhs; whnf
       · first | fail)
    | (apply aw_cond_t
       · conv => lhs; whnf; arg 1; arg 1; whnf)
    | (apply aw_cond_f
       · conv => lhs; whnf; arg 1; arg 1; whnf)
    | (refine aw_cond (by conv => lhs; whnf) ?_ ?_ <;> intro hb)
    | refine aw_ret ?_
    | refine aw_exit ?_
    | refine k_seq_exit ?_
    | refine k_seq_ret ?_
    | refine k_block_ret ?_
    | refine k_block_hit rfl ?_
    | refine k_block_miss rfl ?_
    | refine k_scope_exit ?_
    | refine k_scope_ret ?_
    | refine k_loop_exit ?_
    | refine k_loop_ret ?_
    | refine k_end ?_
    | refine k_end_ret ?_
    | (refine ⟨_, by conv => lhs; whnf; arg 2; whnf, ?_⟩; conv => rhs; whnf)
    | exact trivial
    | intro hg)
  · cases p
    · rfl
    · cases hg
  · cases p
    · cases hg
    · rfl
def refV (k : Int) (hs : List (Int × Bool)) : Int × Bool := if (k != 1) = true then (0, false) else match hs with | [] => (0, false) | h :: t => (h :: t).foldl joinV h
set_option maxRecDepth 100000 in
theorem fold_join : ∀ (t : List (Int × Bool)) (h : Bool) (b : Int), foldW (h, true, b) t = ((t.foldl joinV (b, h)).2, true, (t.foldl joinV (b, h)).1)
  | [], h, b => rfl
  | (n, p) :: t, h, b => by
    have e : foldW (h, true, b) ((n, p) :: t) = foldW (stepW (h, true, b) (n, p)) t := rfl
    rw [e, List.foldl_cons]
    by_cases hd : n < b
    · rw [stW_lt (decide_eq_true hd), fold_join t]
      have e2 : joinV (b, h) (n, p) = (n, h || p) := by unfold joinV; rw [if_pos hd]
      rw [e2]
    · rw [stW_ge (decide_eq_false hd), fold_join t]
      have e2 : joinV (b, h) (n, p) = (b, h || p) := by unfold joinV; rw [if_neg hd]
      rw [e2]
set_option maxRecDepth 100000 in
theorem of_ref (dl : List D) (K : Nat) (p : D) : ofV dl K p = refV (p.f 0).n (hintsL dl K (p.f 1).l 0) := by
  unfold ofV refV
  split
  · rfl
  · cases hintsL dl K (p.f 1).l 0 with
    | nil => rfl
    | cons h t =>
      obtain ⟨n, q⟩ := h
      have e : foldW (false, false, 0) ((n, q) :: t) = foldW (q, true, n) t := by
        show foldW (stepW (false, false, 0) (n, q)) t = _
        rw [stW_new, Bool.false_or]
      have e2 : joinV (n, q) (n, q) = (n, q) := by unfold joinV; rw [if_neg (Int.lt_irrefl n), Bool.or_self]
      rw [e, fold_join]
      show _ = List.foldl joinV (n, q) ((n, q) :: t)
      rw [List.foldl_cons, e2]
noncomputable def HR (hs : List (Int × Bool)) (i : Nat) (h : Int × Bool) : Vst 37 :=
  stS 37 [(4, .bx 4 0), (5, .sl 32 (hintsD hs)), (6, .bx 6 0), (7, .c (.int .i64 i))] [(4, .box 32 [.c (.int .i64 0), .c (.bool false)]), (6, .box 32 [.c (.int .i64 h.1), .c (.bool h.2)])]
set_option maxRecDepth 100000 in
theorem ofR_ac (d p : D) (K : Nat) (hf : ∀ i, i < (p.f 1).l.length → Fits Tryd.prog K 63 (gD (p.f 1).l i)) (hb0 : bulkL (p.f 1).l ≤ 100000000) :
    AC EN5 Tryd.prog 14 [.agg (cellsV Tryd.prog 12 24 d), .agg (cellsV Tryd.prog 12 27 p)] (.agg [.c (.int .i64 (refV (p.f 0).n (hintsL (d.f 0).l K (p.f 1).l 0)).1), .c (.bool (refV (p.f 0).n (hintsL (d.f 0).l K (p.f 1).l 0)).2)]) := by
  have h1 := list_ac d K (p.f 1).l 0 hf hb0
  have h2 := joinRv_ac
  have hlen := hints_len (d.f 0).l K (p.f 1).l 0 hf
  generalize hintsL (d.f 0).l K (p.f 1).l 0 = hs at h1 hlen ⊢
  have hlen2 := hintsD_len hs
  refine ac_enter 37 Tryd.func14 rfl rfl rfl rfl ?_
  intro s w he
  repeat' (first
    | refine aw_seq ?_
    | refine aw_region ?_
    | refine awo_nil ?_
    | refine k_seq ?_
    | refine k_block ?_
    | refine k_scope ?_
    | refine aw_block ?_
    | refine aw_skip ?_
    | refine aw_label ?_
    | refine aw_scope ?_
    | (apply s_pick_t rfl rfl
       · conv => lhs; whnf
       · conv => lhs; whnf
       · first | exact bT1 (by assumption) | exact bT2 (by assumption))
    | (apply s_pick_f rfl rfl
       · conv => lhs; whnf
       · conv => lhs; whnf
       · first | exact bF1 (by assumption) | exact bF2 (by assumption))
    | (apply s_val rfl
       · conv => lhs; whnf
       · conv => lhs; whnf; arg 2; whnf)
    | (apply s_call rfl
       · conv => lhs; whnf
       · conv => lhs; whnf
       · first | exact h1 | exact h2 _ _ _ _)
    | (apply s_box rfl rfl rfl rfl
       · conv => lhs; whnf; arg 1; whnf
       · rfl)
    | (apply s_alloc rfl rfl rfl rfl
       · conv => lhs; whnf; arg 1; whnf
       · rfl)
    | (apply s_store rfl rfl rfl
       · conv => lhs; whnf
       · conv => lhs; whnf; arg 1; whnf
       · conv => lhs; whnf; arg 1; whnf
       · exact ⟨by kernel_rfl, by kernel_rfl⟩
       · rfl)
    | (apply s_wanted_val rfl
       · conv => lhs; whnf
       · conv => lhs; whnf
       · first | rfl | assumption
       · conv => lhs; whnf; arg 2; whnf)
    | (apply s_wanted_call rfl
       · conv => lhs; whnf
       · conv => lhs; whnf
       · first | rfl | assumption
       · conv => lhs; whnf
       · first | exact h1 | exact h2 _ _ _ _)
    | (apply s_skip rfl
       · conv => lhs; whnf
       · conv => lhs; whnf
       · first | rfl | assumption)
    | (apply s_guard_val rfl
       · conv => lhs; whnf
       · conv => lhs; whnf
       · conv => lhs; whnf; arg 2; whnf)
    | (apply s_guard_call rfl
       · conv => lhs; whnf
       · conv => lhs; whnf
       · conv => lhs; whnf
       · first | exact h1 | exact h2 _ _ _ _)
    | (apply aw_draw (by kernel_rfl) (by kernel_rfl))
    | apply y_nil
    | (apply y_pick_t rfl rfl
       · conv => lhs; whnf
       · conv => lhs; whnf
       · first | exact bT1 (by assumption) | exact bT2 (by assumption))
    | (apply y_pick_f rfl rfl
       · conv => lhs; whnf
       · conv => lhs; whnf
       · first | exact bF1 (by assumption) | exact bF2 (by assumption))
    | (apply y_val rfl
       · conv => lhs; whnf
       · conv => lhs; whnf; arg 2; whnf)
    | (apply y_call rfl
       · conv => lhs; whnf
       · conv => lhs; whnf
       · first | exact h1 | exact h2 _ _ _ _)
    | (apply y_store rfl rfl rfl
       · conv => lhs; whnf
       · rfl
       · rfl
       · conv => lhs; whnf; arg 1; whnf
       · conv => lhs; whnf; arg 1; whnf
       · exact ⟨by kernel_rfl, by kernel_rfl⟩
       · rfl)
    | (apply y_wanted_val rfl
       · conv => lhs; whnf
       · conv => lhs; whnf
       · first | rfl | assumption
       · conv => lhs; whnf; arg 2; whnf)
    | (apply y_wanted_call rfl
       · conv => lhs; whnf
       · conv => lhs; whnf
       · first | rfl | assumption
       · conv => lhs; whnf
       · first | exact h1 | exact h2 _ _ _ _)
    | (apply y_skip rfl
       · conv => lhs; whnf
       · conv => lhs; whnf
       · first | rfl | assumption)
    | (apply y_guard_val rfl
       · conv => lhs; whnf
       · conv => lhs; whnf
       · conv => lhs; whnf; arg 2; whnf)
    | (apply y_guard_call rfl
       · conv => lhs; whnf
       · conv => lhs; whnf
       · conv => lhs; whnf
       · first | exact h1 | exact h2 _ _ _ _)
    | exact apartB_none
    | exact apartB_nil
    | exact all_nil
    | (show List.all _ _ = true; rfl)
    | (show apartB _ _ = true; rfl)
    | exact ([] : List Nat)
    | exact (1000000 : Nat)
    | (apply aw_cond_t
       · conv => lhs; whnf; arg 1; arg 1; whnf)
    | (apply aw_cond_f
       · conv => lhs; whnf; arg 1; arg 1; whnf)
    | (refine aw_cond (by conv => lhs; whnf) ?_ ?_ <;> intro hb)
    | refine aw_ret ?_
    | refine aw_exit ?_
    | refine k_seq_exit ?_
    | refine k_seq_ret ?_
    | refine k_block_ret ?_
    | refine k_block_hit rfl ?_
    | refine k_block_miss rfl ?_
    | refine k_scope_exit ?_
    | refine k_scope_ret ?_
    | refine k_loop_exit ?_
    | refine k_loop_ret ?_
    | refine k_end ?_
    | refine k_end_ret ?_
    | (refine ⟨_, by conv => lhs; whnf; arg 2; whnf, ?_⟩; conv => rhs; whnf)
    | exact trivial
    | intro hg)
  · have hb0 : ((hintsD hs).length : Int) = 0 := by simpa using (show (((hintsD hs).length : Int) == 0) = true from hb)
    have e : hs = [] := List.eq_nil_of_length_eq_zero (by omega)
    subst e
    have e2 : refV (p.f 0).n [] = (0, false) := by unfold refV; split <;> rfl
    rw [e2]; rfl
  · have hk : ((p.f 0).n != 1) = false := by simpa using hg
    cases hs with
    | nil => exact absurd hb (by decide)
    | cons h t =>
      refine aw_loop (fun j st => ∃ i, i + j = (h :: t).length ∧ Sub (cx EN5 Tryd.prog s w he) st (HR (h :: t) i (((h :: t).take i).foldl joinV h))) (h :: t).length ⟨0, by omega, ?_⟩ ?_
      · exact Sub.live ⟨rfl, rfl, rfl, rfl, trivial⟩ ⟨rfl, rfl, trivial⟩
      · rintro j st ⟨i, hij, hs2⟩
        refine aw_sub hs2 ?_
        clear hs2
        repeat' (first
    | (apply aw_draw2 (wi := 6) (by kernel_rfl) (by kernel_rfl) rfl rfl (by kernel_rfl))
    | refine aw_seq ?_
    | refine aw_region ?_
    | refine awo_nil ?_
    | refine k_seq ?_
    | refine k_block ?_
    | refine k_scope ?_
    | refine aw_block ?_
    | refine aw_skip ?_
    | refine aw_label ?_
    | refine aw_scope ?_
    | (apply s_pick_t rfl rfl
       · conv => lhs; whnf
       · conv => lhs; whnf
       · first | exact bT1 (by assumption) | exact bT2 (by assumption))
    | (apply s_pick_f rfl rfl
       · conv => lhs; whnf
       · conv => lhs; whnf
       · first | exact bF1 (by assumption) | exact bF2 (by assumption))
    | (apply s_val rfl
       · conv => lhs; whnf
       · conv => lhs; whnf; arg 2; whnf)
    | (apply s_call rfl
       · conv => lhs; whnf
       · conv => lhs; whnf
       · first | exact h2 _ _ _ _)
    | (apply s_box rfl rfl rfl rfl
       · conv => lhs; whnf; arg 1; whnf
       · rfl)
    | (apply s_alloc rfl rfl rfl rfl
       · conv => lhs; whnf; arg 1; whnf
       · rfl)
    | (apply s_store rfl rfl rfl
       · conv => lhs; whnf
       · conv => lhs; whnf; arg 1; whnf
       · conv => lhs; whnf; arg 1; whnf
       · exact ⟨by kernel_rfl, by kernel_rfl⟩
       · rfl)
    | (apply s_wanted_val rfl
       · conv => lhs; whnf
       · conv => lhs; whnf
       · first | rfl | assumption
       · conv => lhs; whnf; arg 2; whnf)
    | (apply s_wanted_call rfl
       · conv => lhs; whnf
       · conv => lhs; whnf
       · first | rfl | assumption
       · conv => lhs; whnf
       · first | exact h2 _ _ _ _)
    | (apply s_skip rfl
       · conv => lhs; whnf
       · conv => lhs; whnf
       · first | rfl | assumption)
    | (apply s_guard_val rfl
       · conv => lhs; whnf
       · conv => lhs; whnf
       · conv => lhs; whnf; arg 2; whnf)
    | (apply s_guard_call rfl
       · conv => lhs; whnf
       · conv => lhs; whnf
       · conv => lhs; whnf
       · first | exact h2 _ _ _ _)
    | (apply aw_draw (by kernel_rfl) (by kernel_rfl))
    | apply y_nil
    | (apply y_pick_t rfl rfl
       · conv => lhs; whnf
       · conv => lhs; whnf
       · first | exact bT1 (by assumption) | exact bT2 (by assumption))
    | (apply y_pick_f rfl rfl
       · conv => lhs; whnf
       · conv => lhs; whnf
       · first | exact bF1 (by assumption) | exact bF2 (by assumption))
    | (apply y_val rfl
       · conv => lhs; whnf
       · conv => lhs; whnf; arg 2; whnf)
    | (apply y_call rfl
       · conv => lhs; whnf
       · conv => lhs; whnf
       · first | exact h2 _ _ _ _)
    | (apply y_store rfl rfl rfl
       · conv => lhs; whnf
       · rfl
       · rfl
       · conv => lhs; whnf; arg 1; whnf
       · conv => lhs; whnf; arg 1; whnf
       · exact ⟨by kernel_rfl, by kernel_rfl⟩
       · rfl)
    | (apply y_wanted_val rfl
       · conv => lhs; whnf
       · conv => lhs; whnf
       · first | rfl | assumption
       · conv => lhs; whnf; arg 2; whnf)
    | (apply y_wanted_call rfl
       · conv => lhs; whnf
       · conv => lhs; whnf
       · first | rfl | assumption
       · conv => lhs; whnf
       · first | exact h2 _ _ _ _)
    | (apply y_skip rfl
       · conv => lhs; whnf
       · conv => lhs; whnf
       · first | rfl | assumption)
    | (apply y_guard_val rfl
       · conv => lhs; whnf
       · conv => lhs; whnf
       · conv => lhs; whnf; arg 2; whnf)
    | (apply y_guard_call rfl
       · conv => lhs; whnf
       · conv => lhs; whnf
       · conv => lhs; whnf
       · first | exact h2 _ _ _ _)
    | exact apartB_none
    | exact apartB_nil
    | exact all_nil
    | (show List.all _ _ = true; rfl)
    | (show apartB _ _ = true; rfl)
    | exact ([] : List Nat)
    | exact (1000000 : Nat)
    | (apply aw_cond_t
       · conv => lhs; whnf; arg 1; arg 1; whnf)
    | (apply aw_cond_f
       · conv => lhs; whnf; arg 1; arg 1; whnf)
    | (refine aw_cond (by conv => lhs; whnf) ?_ ?_ <;> intro hb)
    | refine aw_ret ?_
    | refine aw_exit ?_
    | refine k_seq_exit ?_
    | refine k_seq_ret ?_
    | refine k_block_ret ?_
    | refine k_block_hit rfl ?_
    | refine k_block_miss rfl ?_
    | refine k_scope_exit ?_
    | refine k_scope_ret ?_
    | refine k_loop_exit ?_
    | refine k_loop_ret ?_
    | refine k_end ?_
    | refine k_end_ret ?_
    | (refine ⟨_, by conv => lhs; whnf; arg 2; whnf, ?_⟩; conv => rhs; whnf)
    | exact trivial
    | intro hg)
        · have hb : decide ((i : Int) < (hintsD (h :: t)).length) = true := hb
          have hlt : i < (h :: t).length := by rw [← hlen2]; simpa using hb
          have hq : ((h :: t).take (i + 1)).foldl joinV h = joinV (((h :: t).take i).foldl joinV h) ((h :: t)[i]) := by
            rw [List.take_add_one, List.getElem?_eq_getElem hlt, Option.toList_some, List.foldl_append]; rfl
          have hg2 : gD (hintsD (h :: t)) i = hintD ((h :: t)[i]) := by
            rw [gD_get (by rw [hlen2]; exact hlt)]
            exact List.getElem_map hintD
          refine k_loop_next (j' := j - 1) (by omega) ⟨i + 1, by omega, Sub.live ⟨rfl, rfl, rfl, rfl, trivial⟩ ⟨rfl, ?_, trivial⟩⟩
          rw [hq]
          show some (Res.box _ [V.c (.int .i64 (joinV ((((h :: t).take i).foldl joinV h).1, (((h :: t).take i).foldl joinV h).2) (((gD (hintsD (h :: t)) i).f 0).n, ((gD (hintsD (h :: t)) i).f 1).b)).1), V.c (.bool (joinV ((((h :: t).take i).foldl joinV h).1, (((h :: t).take i).foldl joinV h).2) (((gD (hintsD (h :: t)) i).f 0).n, ((gD (hintsD (h :: t)) i).f 1).b)).2)]) = _
          rw [hg2]
          rfl
        · exact i64_in (by omega)
        · have hb : decide ((i : Int) < (hintsD (h :: t)).length) = true := hb
          have : (i : Int) < (hintsD (h :: t)).length := by simpa using hb
          exact ⟨by omega, this⟩
        · have hb : decide ((i : Int) < (hintsD (h :: t)).length) = false := hb
          have hge : ¬ (i : Int) < (hintsD (h :: t)).length := by simpa using hb
          have e : i = (h :: t).length := by omega
          have e2 : refV (p.f 0).n (h :: t) = (h :: t).foldl joinV h := by unfold refV; rw [if_neg (by rw [hk]; decide)]
          rw [e, List.take_length, e2]
          rfl
  · refine ⟨by omega, ?_⟩
    have hb : (((hintsD hs).length : Int) == 0) = false := hb
    have h0 : ¬ ((hintsD hs).length : Int) = 0 := fun e => by rw [e] at hb; cases hb
    omega
  · have hk : ((p.f 0).n != 1) = true := by simpa using hg
    have e2 : refV (p.f 0).n hs = (0, false) := by unfold refV; rw [if_pos hk]
    rw [e2]; rfl
end Go.Proofs.YtjhjleanihgopaaDoor
namespace Go.Proofs.YtjhjleanihgopaaDoor
open Go.RowKit
attribute [local irreducible] wpList Calls Code.wp AW AWo OpOk seqK blockK scopeK loopK endK endKB AC ACB absLex Yld Sub
def ACP (e : Ge) (P : Program) (f : FuncId) (args : List V) (R : V → Prop) : Prop :=
  ∀ (s : Sg) (w : World) (us : Array Value), relL P s w args us.toList → (∀ b o, s.F b o → (w.cell? ⟨b, o, none⟩).isSome) → e.E w →
    Calls P f us w fun en w' => ∃ v F' r, en = .returned v ∧ Frm (fun _ => False) w w' ∧ Keeps s.F F' w w' ∧ (∀ b o, F' b o → (w'.cell? ⟨b, o, none⟩).isSome) ∧ (∀ b o, b < w.heap.size → F' b o → s.F b o) ∧ R r ∧ rel P { s with F := F' } w' r v
section
variable {X : Cx} {nn : Nat} {st : Vst nn} {o : Oper} {K : Vst nn → Prop} {ops : Array Oper} {l : List Oper} {d : Option Tmp} {KK : Vst nn → Prop}
set_option maxRecDepth 100000 in
theorem opOk_callP {f : FuncId} {args : List V} {R : V → Prop} (h : act1 X.P st.rs (ev st) o.op = .call f args) (hc : ACP X.e X.P f (outL args) R) (hK : ∀ r, R r → K (st.put o.dst r)) : OpOk X o st K := by
  unfold OpOk
  intro s w a hI N Q hN
  obtain ⟨us, h1, h2⟩ := call1_ok h hI.ev (fun _ => rfl)
  unfold Oper.wp
  rw [h1, Oper.upon_enter]
  refine (hc s w us (relL.out _ _ h2) hI.mem.fx hI.en).mono ?_
  rintro e w' ⟨v, F', r, rfl, hfr, hk, hfx, hnf, hR, hr⟩
  have hm := hI.mem.after (s' := { s with F := F' }) hfr hk rfl rfl rfl hfx hnf
  refine hN _ _ _ _ ((hI.go hm.1 hm.2 ⟨hfr.os, hfr.tape, hfr.output, hfr.size, fun k hk _ => hfr.block k hk (fun h => h)⟩ fun b o hb _ hF => hnf b o (Nat.lt_of_lt_of_le hb hI.base) hF).put o.dst hr) (hK r hR)
set_option maxRecDepth 100000 in
theorem s_callP {f : FuncId} {args : List V} {R : V → Prop} (hg : o.guard = none) (hd : o.dst = d) (h : act1 X.P st.rs (ev st) o.op = .call f args) (hc : ACP X.e X.P f (outL args) R) (hK : ∀ r, R r → AWo X ops l (st.put d r) KK) : AWo X ops (o :: l) st KK :=
  awo_cons hg (opOk_callP h hc fun r hr => by rw [hd]; exact hK r hr)
set_option maxRecDepth 100000 in
theorem s_guard_callP {j : Nat} {want b : Bool} {f : FuncId} {args : List V} {R : V → Prop} (hg : o.guard = some (j, want)) (hd : o.dst = d) (hb : gval ops st j = some b) (h : act1 X.P st.rs (ev st) o.op = .call f args) (hc : ACP X.e X.P f (outL args) R) (hK : (b == want) = true → ∀ r, R r → AWo X ops l (st.put d r) KK)
    (hN : (b == want) = false → AWo X ops l (st.put d .any) KK) : AWo X ops (o :: l) st KK := by
  cases e : b == want
  · exact s_skip hg hd hb e (hN e)
  · exact awo_guard hg hb (fun _ => opOk_callP h hc fun r hr => by rw [hd]; exact hK e r hr) fun q => (q (by simpa using e)).elim
end
/-- some bool comes back -/
def RB (r : V) : Prop := ∃ b : Bool, r = .c (.bool b) ∧ True
set_option maxRecDepth 100000 in
theorem acP_of5 {f : FuncId} {args : List V} (h : ∀ s w us, relL Tryd.prog s w args us.toList → Env w → Calls Tryd.prog f us w fun e w' => ∃ b, e = .returned (.bool b) ∧ Below w.heap.size w w') : ACP EN5 Tryd.prog f args RB := by
  unfold ACP
  intro s w us hus hfx he
  refine (h s w us hus he).mono ?_
  rintro e w' ⟨r, rfl, hb⟩
  have hc : ∀ b o, s.F b o → w'.cell? ⟨b, o, none⟩ = w.cell? ⟨b, o, none⟩ := fun b o hF => by
    obtain ⟨x, hx⟩ := Option.isSome_iff_exists.1 (hfx b o hF)
    exact hb.cell (p := ⟨b, o, none⟩) (block_lt_of_cell hx)
  exact ⟨.bool r, s.F, .c (.bool r), rfl, Frm.of_below hb, fun b o hF => ⟨hc b o hF, hF⟩, fun b o hF => by rw [hc b o hF]; exact hfx b o hF, fun _ _ _ h => h, ⟨r, rfl, trivial⟩, rel_bool⟩
set_option maxRecDepth 100000 in
theorem large10_acp (d : D) : ACP EN5 Tryd.prog 10 [.agg (cellsV Tryd.prog 12 24 d)] RB :=
  acP_of5 fun s w us hus _ => by
    obtain ⟨u, rfl, h1⟩ : ∃ u, us = #[u] ∧ rel Tryd.prog s w (.agg (cellsV Tryd.prog 12 24 d)) u := by
      cases hl : us.toList with
      | nil => rw [hl] at hus; simp [relL] at hus
      | cons x xs =>
        rw [hl, relL] at hus
        cases xs with
        | nil => exact ⟨x, by apply Array.ext'; simpa using hl, hus.1⟩
        | cons y ys => simp [relL] at hus
    rw [rel] at h1
    obtain ⟨cs, rfl, h1⟩ := h1
    obtain ⟨k, hk⟩ := cells_back 12 24 _ _ (by kernel_rfl) h1
    obtain ⟨A, c, e, h2, h3, -, h4⟩ := in24 ⟨k, hk.rep⟩
    rw [e]
    exact largeR A _ c w w (Below.refl _ _) h4 h2 h3
set_option maxRecDepth 100000 in
theorem exam_ac : AC EN5 Tryd.prog 12 [] (.c (.bool true)) :=
  ac_of5 (u := .bool true) fun s w us hus he => by
    have e : us = #[] := by
      cases hl : us.toList with
      | nil => apply Array.ext'; simpa using hl
      | cons x xs => rw [hl] at hus; simp [relL] at hus
    subst e
    exact ⟨fun _ _ => rel_bool, exam44 w he⟩
end Go.Proofs.YtjhjleanihgopaaDoor
namespace Go.Proofs.YtjhjleanihgopaaDoor
open Go.RowKit
attribute [local irreducible] wpList Calls Code.wp AW AWo OpOk seqK blockK scopeK loopK endK endKB AC ACB absLex Yld Sub
def largeX (f : List D → Bool) (x : D) : Bool := decide (((x.f 7).l.length : Int) > 0) && f (x.f 7).l
def largeV : Nat → List D → Int → Bool
  | 0, l, lv => decide (lv ≤ 0) || decide ((l.length : Int) > 60)
  | k + 1, l, lv => decide (lv ≤ 0) || decide ((l.length : Int) > 60) || (List.range l.length).any fun i => largeX (fun l => largeV k l (lv - 1)) (gD l i)
noncomputable def HLa (l : List D) (lv : Int) (i : Nat) : Vst 36 := stS 36 [(0, .sl 63 l), (1, .c (.int .i64 lv)), (5, .c (.int .i64 i))] []
set_option maxRecDepth 100000 in
theorem large_core (f : List D → Bool) (l : List D) (lv : Int) (hl : R64 lv) (ih : ∀ i, i < l.length → 0 < lv → AC EN5 Tryd.prog 11 [.sl 63 ((gD l i).f 7).l, .c (.int .i64 (lv - 1))] (.c (.bool (f ((gD l i).f 7).l)))) :
    AC EN5 Tryd.prog 11 [.sl 63 l, .c (.int .i64 lv)] (.c (.bool (decide (lv ≤ 0) || decide ((l.length : Int) > 60) || (List.range l.length).any fun i => largeX f (gD l i)))) := by
  refine ac_enter 36 Tryd.func11 rfl rfl rfl rfl ?_
  intro s w he
  repeat' (first
    | refine aw_seq ?_
    | refine aw_region ?_
    | refine awo_nil ?_
    | refine k_seq ?_
    | refine k_block ?_
    | refine k_scope ?_
    | refine aw_block ?_
    | refine aw_skip ?_
    | refine aw_label ?_
    | refine aw_scope ?_
    | (apply s_pick_t rfl rfl
       · conv => lhs; whnf
       · conv => lhs; whnf
       · first | exact bT1 (by assumption) | exact bT2 (by assumption))
    | (apply s_pick_f rfl rfl
       · conv => lhs; whnf
       · conv => lhs; whnf
       · first | exact bF1 (by assumption) | exact bF2 (by assumption))
    | (apply s_val rfl
       · conv => lhs; whnf
       · conv => lhs; whnf; arg 2; whnf)
    | (apply s_call rfl
       · conv => lhs; whnf
       · conv => lhs; whnf
       · first | fail)
    | (apply s_wanted_val rfl
       · conv => lhs; whnf
       · conv => lhs; whnf
       · first | rfl | assumption
       · conv => lhs; whnf; arg 2; whnf)
    | (apply s_wanted_call rfl
       · conv => lhs; whnf
       · conv => lhs; whnf
       · first | rfl | assumption
       · conv => lhs; whnf
       · first | fail)
    | (apply s_skip rfl
       · conv => lhs; whnf
       · conv => lhs; whnf
       · first | rfl | assumption)
    | (apply s_guard_val rfl
       · conv => lhs; whnf
       · conv => lhs; whnf
       · conv => lhs; whnf; arg 2; whnf)
    | (apply s_guard_call rfl
       · conv => lhs; whnf
       · conv => lhs; whnf
       · conv => lhs; whnf
       · first | fail)
    | (apply aw_cond_t
       · conv => lhs; whnf; arg 1; arg 1; whnf)
    | (apply aw_cond_f
       · conv => lhs; whnf; arg 1; arg 1; whnf)
    | (refine aw_cond (by conv => lhs; whnf) ?_ ?_ <;> intro hb)
    | refine aw_ret ?_
    | refine aw_exit ?_
    | refine k_seq_exit ?_
    | refine k_seq_ret ?_
    | refine k_block_ret ?_
    | refine k_block_hit rfl ?_
    | refine k_block_miss rfl ?_
    | refine k_scope_exit ?_
    | refine k_scope_ret ?_
    | refine k_loop_exit ?_
    | refine k_loop_ret ?_
    | refine k_end ?_
    | refine k_end_ret ?_
    | (refine ⟨_, by conv => lhs; whnf; arg 2; whnf, ?_⟩; conv => rhs; whnf)
    | exact trivial
    | intro hg)
  · have h1 : decide ((l.length : Int) > 60) = true := by assumption
    rw [h1, Bool.or_true, Bool.true_or]
  · have h0 : decide (lv ≤ 0) = false := by have h : (decide (lv ≤ 0) == false) = true := by assumption
                                            simpa using h
    have h1 : decide ((l.length : Int) > 60) = false := by assumption
    have hpos : 0 < lv := by simp at h0; omega
    have hl60 : l.length ≤ 60 := by simp at h1; omega
    rw [h0, h1, Bool.false_or, Bool.false_or]
    refine aw_loop (fun j st => ∃ i, i + j = l.length ∧ (∀ q, q < i → largeX f (gD l q) = false) ∧ Sub (cx EN5 Tryd.prog s w he) st (HLa l lv i)) l.length ⟨0, by omega, fun q hq => by omega, ?_⟩ ?_
    · exact Sub.live ⟨rfl, rfl, rfl, trivial⟩ trivial
    · rintro j st ⟨i, hij, hall, hs2⟩
      refine aw_sub hs2 ?_
      clear hs2
      have ih2 := fun (h : decide ((i : Int) < (l.length : Int)) = true) => ih i (by simpa using h) hpos
      unfold R64 at hl
      repeat' (first
    | refine aw_seq ?_
    | refine aw_region ?_
    | refine awo_nil ?_
    | refine k_seq ?_
    | refine k_block ?_
    | refine k_scope ?_
    | refine aw_block ?_
    | refine aw_skip ?_
    | refine aw_label ?_
    | refine aw_scope ?_
    | (apply s_pick_t rfl rfl
       · conv => lhs; whnf
       · conv => lhs; whnf
       · first | exact bT1 (by assumption) | exact bT2 (by assumption))
    | (apply s_pick_f rfl rfl
       · conv => lhs; whnf
       · conv => lhs; whnf
       · first | exact bF1 (by assumption) | exact bF2 (by assumption))
    | (apply s_val rfl
       · conv => lhs; whnf
       · conv => lhs; whnf; arg 2; whnf)
    | (apply s_call rfl
       · conv => lhs; whnf
       · conv => lhs; whnf
       · first | exact ih2 (by assumption))
    | (apply s_wanted_val rfl
       · conv => lhs; whnf
       · conv => lhs; whnf
       · first | rfl | assumption
       · conv => lhs; whnf; arg 2; whnf)
    | (apply s_wanted_call rfl
       · conv => lhs; whnf
       · conv => lhs; whnf
       · first | rfl | assumption
       · conv => lhs; whnf
       · first | exact ih2 (by assumption))
    | (apply s_skip rfl
       · conv => lhs; whnf
       · conv => lhs; whnf
       · first | rfl | assumption)
    | (apply s_guard_val rfl
       · conv => lhs; whnf
       · conv => lhs; whnf
       · conv => lhs; whnf; arg 2; whnf)
    | (apply s_guard_call rfl
       · conv => lhs; whnf
       · conv => lhs; whnf
       · conv => lhs; whnf
       · first | exact ih2 (by assumption))
    | (apply aw_cond_t
       · conv => lhs; whnf; arg 1; arg 1; whnf)
    | (apply aw_cond_f
       · conv => lhs; whnf; arg 1; arg 1; whnf)
    | (refine aw_cond (by conv => lhs; whnf) ?_ ?_ <;> intro hb)
    | refine aw_ret ?_
    | refine aw_exit ?_
    | refine k_seq_exit ?_
    | refine k_seq_ret ?_
    | refine k_block_ret ?_
    | refine k_block_hit rfl ?_
    | refine k_block_miss rfl ?_
    | refine k_scope_exit ?_
    | refine k_scope_ret ?_
    | refine k_loop_exit ?_
    | refine k_loop_ret ?_
    | refine k_end ?_
    | refine k_end_ret ?_
    | (refine ⟨_, by conv => lhs; whnf; arg 2; whnf, ?_⟩; conv => rhs; whnf)
    | exact trivial
    | intro hg)
      all_goals try (exact i64_in (by omega))
      all_goals try (exact (⟨by omega, by have h : decide ((i : Int) < (l.length : Int)) = true := by assumption
                                          simp at h; omega⟩ : 0 ≤ (i : Int) ∧ (i : Int) < (l.length : Int)))
      · have hlt : i < l.length := by have h : decide ((i : Int) < (l.length : Int)) = true := by assumption
                                      simpa using h
        have h3 : (decide ((((gD l i).f 7).l.length : Int) > 0) == true) = true := by assumption
        have h4 : f ((gD l i).f 7).l = true := by assumption
        have hx : largeX f (gD l i) = true := by unfold largeX; rw [h4, Bool.and_true]; simpa using h3
        have ha : ((List.range l.length).any fun i => largeX f (gD l i)) = true := List.any_eq_true.2 ⟨i, List.mem_range.2 hlt, hx⟩
        rw [ha]
      rotate_right 1
      · have hge : ¬ i < l.length := by have h : decide ((i : Int) < (l.length : Int)) = false := by assumption
                                        simpa using h
        have ha : ((List.range l.length).any fun i => largeX f (gD l i)) = false := by
          rw [List.any_eq_false]
          intro q hq
          have := List.mem_range.1 hq
          rw [hall q (by omega)]; decide
        rw [ha]
      all_goals
        have hlt : i < l.length := by have h : decide ((i : Int) < (l.length : Int)) = true := by assumption
                                      simpa using h
        have hx : largeX f (gD l i) = false := by
          unfold largeX
          first
            | (have h4 : f ((gD l i).f 7).l = false := by assumption
               rw [h4, Bool.and_false])
            | (have h3 : (decide ((((gD l i).f 7).l.length : Int) > 0) == true) = false := by assumption
               have h5 : decide ((((gD l i).f 7).l.length : Int) > 0) = false := by simpa using h3
               rw [h5, Bool.false_and])
        refine k_loop_next (j' := j - 1) (by omega) ⟨i + 1, by omega, fun q hq => ?_, Sub.live ⟨rfl, rfl, rfl, trivial⟩ trivial⟩
        by_cases e : q = i
        · rw [e]; exact hx
        · exact hall q (by omega)
  · have h0 : decide (lv ≤ 0) = true := by have h : (decide (lv ≤ 0) == false) = false := by assumption
                                           simpa using h
    rw [h0, Bool.true_or, Bool.true_or]
set_option maxRecDepth 100000 in
theorem large_ac : ∀ (k : Nat) (l : List D) (lv : Int), R64 lv → (∀ i, i < l.length → Fits Tryd.prog k 63 (gD l i)) → AC EN5 Tryd.prog 11 [.sl 63 l, .c (.int .i64 lv)] (.c (.bool (largeV k l lv)))
  | 0, l, lv, h, hf => by
    have e : l = [] := by
      cases l with
      | nil => rfl
      | cons x r => exact (hf 0 (Nat.succ_pos _)).elim
    subst e
    have := large_core (fun _ => false) [] lv h fun i hi => absurd hi (Nat.not_lt_zero _)
    have e2 : largeV 0 [] lv = (decide (lv ≤ 0) || decide ((([] : List D).length : Int) > 60) || (List.range ([] : List D).length).any fun i => largeX (fun _ => false) (gD [] i)) := by
      unfold largeV; simp
    rw [e2]; exact this
  | k + 1, l, lv, h, hf => by
    refine large_core (fun l => largeV k l (lv - 1)) l lv h fun i hi hp => large_ac k _ (lv - 1) ?_ (pick_fits (hf i hi))
    unfold R64 at h ⊢
    omega
end Go.Proofs.YtjhjleanihgopaaDoor
namespace Go.Proofs.YtjhjleanihgopaaDoor
open Go.RowKit
attribute [local irreducible] wpList Calls Code.wp AW AWo OpOk seqK blockK scopeK loopK endK endKB AC ACB absLex Yld Sub
set_option maxRecDepth 100000 in
theorem law44Operations (d p : D) (K : Nat) (hf : ∀ i, i < (p.f 1).l.length → Fits Tryd.prog K 63 (gD (p.f 1).l i)) (hb0 : bulkL (p.f 1).l ≤ 100000000) :
    AC EN5 Tryd.prog 3 [.agg (cellsV Tryd.prog 12 24 d), .agg (cellsV Tryd.prog 12 27 p)] (.c (.bool true)) := by
  have h1 := of_ac d p K hf hb0
  have h2 := ofR_ac d p K hf hb0
  rw [← of_ref] at h2
  have h3 := large_ac K (p.f 1).l 8 (by unfold R64; decide) hf
  have h4 := exam_ac
  generalize ofV (d.f 0).l K p = r at h1 h2
  refine ac_enter 23 Tryd.func3 rfl rfl rfl rfl ?_
  intro s w he
  repeat' (first
    | (apply s_callP rfl rfl
       · conv => lhs; whnf
       · exact large10_acp d
       rintro _ ⟨_, rfl, hq⟩)
    | (apply s_guard_callP rfl
       · conv => lhs; whnf
       · conv => lhs; whnf
       · conv => lhs; whnf
       · exact large10_acp d
       intro hg
       rintro _ ⟨_, rfl, hq⟩)
    | refine aw_seq ?_
    | refine aw_region ?_
    | refine awo_nil ?_
    | refine k_seq ?_
    | refine k_block ?_
    | refine k_scope ?_
    | refine aw_block ?_
    | refine aw_skip ?_
    | refine aw_label ?_
    | refine aw_scope ?_
    | (apply s_pick_t rfl rfl
       · conv => lhs; whnf
       · conv => lhs; whnf
       · first | exact bT1 (by assumption) | exact bT2 (by assumption))
    | (apply s_pick_f rfl rfl
       · conv => lhs; whnf
       · conv => lhs; whnf
       · first | exact bF1 (by assumption) | exact bF2 (by assumption))
    | (apply s_val rfl
       · conv => lhs; whnf
       · conv => lhs; whnf; arg 2; whnf)
    | (apply s_call rfl
       · conv => lhs; whnf
       · conv => lhs; whnf
       · first | exact h1 | exact h2 | exact h3 | exact h4)
    | (apply s_box rfl rfl rfl rfl
       · conv => lhs; whnf; arg 1; whnf
       · rfl)
    | (apply s_wanted_val rfl
       · conv => lhs; whnf
       · conv => lhs; whnf
       · first | rfl | assumption
       · conv => lhs; whnf; arg 2; whnf)
    | (apply s_wanted_call rfl
       · conv => lhs; whnf
       · conv => lhs; whnf
       · first | rfl | assumption
       · conv => lhs; whnf
       · first | exact h1 | exact h2 | exact h3 | exact h4)
    | (apply s_skip rfl
       · conv => lhs; whnf
       · conv => lhs; whnf
       · first | rfl | assumption)
    | (apply s_guard_val rfl
       · conv => lhs; whnf
       · conv => lhs; whnf
       · conv => lhs; whnf; arg 2; whnf)
    | (apply s_guard_call rfl
       · conv => lhs; whnf
       · conv => lhs; whnf
       · conv => lhs; whnf
       · first | exact h1 | exact h2 | exact h3 | exact h4)
    | (apply aw_draw (by kernel_rfl) (by kernel_rfl))
    | apply y_nil
    | (apply y_pick_t rfl rfl
       · conv => lhs; whnf
       · conv => lhs; whnf
       · first | exact bT1 (by assumption) | exact bT2 (by assumption))
    | (apply y_pick_f rfl rfl
       · conv => lhs; whnf
       · conv => lhs; whnf
       · first | exact bF1 (by assumption) | exact bF2 (by assumption))
    | (apply y_val rfl
       · conv => lhs; whnf
       · conv => lhs; whnf; arg 2; whnf)
    | (apply y_call rfl
       · conv => lhs; whnf
       · conv => lhs; whnf
       · first | exact h1 | exact h2 | exact h3 | exact h4)
    | (apply y_wanted_val rfl
       · conv => lhs; whnf
       · conv => lhs; whnf
       · first | rfl | assumption
       · conv => lhs; whnf; arg 2; whnf)
    | (apply y_wanted_call rfl
       · conv => lhs; whnf
       · conv => lhs; whnf
       · first | rfl | assumption
       · conv => lhs; whnf
       · first | exact h1 | exact h2 | exact h3 | exact h4)
    | (apply y_skip rfl
       · conv => lhs; whnf
       · conv => lhs; whnf
       · first | rfl | assumption)
    | (apply y_guard_val rfl
       · conv => lhs; whnf
       · conv => lhs; whnf
       · conv => lhs; whnf; arg 2; whnf)
    | (apply y_guard_call rfl
       · conv => lhs; whnf
       · conv => lhs; whnf
       · conv => lhs; whnf
       · first | exact h1 | exact h2 | exact h3 | exact h4)
    | exact apartB_none
    | exact apartB_nil
    | exact all_nil
    | (show List.all _ _ = true; rfl)
    | (show apartB _ _ = true; rfl)
    | exact ([] : List Nat)
    | exact (1000000 : Nat)
    | (apply aw_cond_t
       · conv => lhs; whnf; arg 1; arg 1; whnf)
    | (apply aw_cond_f
       · conv => lhs; whnf; arg 1; arg 1; whnf)
    | (refine aw_cond (by conv => lhs; whnf) ?_ ?_ <;> intro hb)
    | refine aw_ret ?_
    | refine aw_exit ?_
    | refine k_seq_exit ?_
    | refine k_seq_ret ?_
    | refine k_block_ret ?_
    | refine k_block_hit rfl ?_
    | refine k_block_miss rfl ?_
    | refine k_scope_exit ?_
    | refine k_scope_ret ?_
    | refine k_loop_exit ?_
    | refine k_loop_ret ?_
    | refine k_end ?_
    | refine k_end_ret ?_
    | (refine ⟨_, by conv => lhs; whnf; arg 2; whnf, ?_⟩; conv => rhs; whnf)
    | exact trivial
    | intro hg)
  · exfalso; simp at hg
  · exact ⟨by kernel_rfl, by kernel_rfl, by kernel_rfl⟩
end Go.Proofs.YtjhjleanihgopaaDoor
namespace Go.Proofs.YtjhjleanihgopaaDoor
open Go.ChangeShapes Go.WideShapes Go.ChangeAt Go.RowKit
attribute [local irreducible] wpList Calls Code.wp
set_option maxRecDepth 100000 in
theorem plain_fits {k : Nat} {x : D} (h : Fits Tryd.prog k 27 x) : (∀ i, i < (x.f 1).l.length → Fits Tryd.prog k 63 (gD (x.f 1).l i)) ∧ bulkL (x.f 1).l ≤ bulkD x := by
  cases k with
  | zero => exact h.elim
  | succ k =>
  unfold Fits at h
  rw [Tryd.underlying27] at h
  obtain ⟨l, rfl, hl, hf⟩ := h
  have h7 : Fits Tryd.prog k 25 (gD l 1) := hf 1 _ rfl
  have hl7 : 1 < l.length := by rw [hl]; decide
  have hb := bulk_at hl7
  cases k with
  | zero => exact h7.elim
  | succ k =>
    unfold Fits at h7
    obtain ⟨l2, e, h8⟩ : ∃ l2, gD l 1 = .list l2 ∧ ∀ i, i < l2.length → Fits Tryd.prog k 63 (gD l2 i) := by
      rw [Tryd.underlying25] at h7
      exact h7
    have e2 : ((D.obj l).f 1).l = l2 := by show (gD l 1).l = l2; rw [e]; rfl
    rw [e2]
    refine ⟨fun i hi => (h8 i hi).up.up, ?_⟩
    rw [e] at hb
    have e3 : bulkD (D.list l2) = bulkL l2 + 1 := by simp [bulkD]
    have e4 : bulkD (D.obj l) = bulkL l + 1 := by simp [bulkD]
    omega
set_option maxRecDepth 100000 in
/-- what an argument holds -/
theorem arg_in {H : Type} {enc : TypeId × Value → H} {W : World} {v : Value} {base : Nat} {dw : DataW H} {ps : List MemPlace} {t : TypeId} {fs : Array Field} (ht : Tryd.prog.underlying t = some (.struct fs)) (hv : Value.okWide Tryd.prog W .any base t v)
    (hd : DataW.Trod enc Tryd.prog W 0 (fun _ => true) true t v dw ps) :
    ∃ (k : Nat) (cs : Array Value) (d : D), v = .agg cs ∧ Rep Tryd.prog W (fun b => b < W.heap.size) k t cs.toList d ∧ Fits Tryd.prog k t d ∧ bulkD d ≤ Rows.uptoBulk dw := by
  obtain ⟨cs, rfl, _⟩ := okWide_struct ht hv
  obtain ⟨k, hk⟩ := hd
  obtain ⟨d, h1, h2, h3⟩ := rep_of_trod2 hk
  exact ⟨k, cs, d, rfl, by simpa [Value.cells] using h1, h2, h3⟩
set_option maxRecDepth 100000 in
theorem rep_len {P : Program} {w : World} {I : Nat → Prop} {k : Nat} {t : TypeId} {cs : List Value} {d : D} {fs : Array Field} (ht : P.underlying t = some (.struct fs)) (h : Rep P w I k t cs d) : cs.length = P.cellsOf t := by
  cases k with
  | zero => exact h.elim
  | succ k => unfold Rep at h; rw [ht] at h; exact h.1
/-- the reading at the call -/
def sg0 (W : World) : Sg := ⟨fun b o => (W.cell? ⟨b, o, none⟩).isSome, fun _ => none, fun _ => none, fun _ => (undef, 0)⟩
set_option maxRecDepth 100000 in
theorem cells0 {W : World} {k : Nat} {t : TypeId} {cs : Array Value} {d : D} {fs : Array Field} (ht : Tryd.prog.underlying t = some (.struct fs)) (hl : layB Tryd.prog 12 t = true) (hr : Rep Tryd.prog W (fun b => b < W.heap.size) k t cs.toList d) : rel Tryd.prog (sg0 W) W (.agg (cellsV Tryd.prog 12 t d)) (.agg cs) := by
  rw [rel]
  exact ⟨cs, rfl, cells_rel (s := sg0 W) 12 k t cs.toList d (RepF.of_rep hr fun b o _ h => h) (rep_len ht hr) hl⟩
set_option maxRecDepth 100000 in
theorem calls_of_ac5 {f : FuncId} {args : List V} {W : World} {us : Array Value} (h : AC EN5 Tryd.prog f args (.c (.bool true))) (hr : relL Tryd.prog (sg0 W) W args us.toList) (he : Env W) : Calls Tryd.prog f us W fun e W' => e = .returned (.bool true) ∧ Below W.heap.size W W' := by
  refine (h (sg0 W) W us hr (fun b o h => h) he).mono ?_
  rintro e W' ⟨v, F', rfl, hfr, -, -, -, hv⟩
  rw [rel] at hv
  obtain ⟨rfl, -⟩ := hv
  exact ⟨rfl, hfr.below⟩
set_option maxRecDepth 100000 in
theorem relL2 {P : Program} {s : Sg} {w : World} {v v2 : V} {u u2 : Value} (h : rel P s w v u) (h2 : rel P s w v2 u2) : relL P s w [v, v2] (#[u, u2] : Array Value).toList := by
  show relL P s w [v, v2] [u, u2]
  rw [relL, relL]; exact ⟨h, h2, by simp [relL]⟩
set_option maxRecDepth 100000 in
theorem upto_two {H : Type} {d d2 : DataW H} {gs : List (DataW H)} (h : Rows.uptoSmall H (d :: d2 :: gs) = true) : Rows.uptoBulk d ≤ 1048576 ∧ Rows.uptoBulk d2 ≤ 1048576 := by
  have h1 : Rows.uptoBulkAll (d :: d2 :: gs) ≤ 1048576 := of_decide_eq_true h
  rw [Rows.uptoBulkAll, Rows.uptoBulkAll] at h1
  omega
section
variable {H : Type} {enc : TypeId × Value → H} {W : World} {v v2 : Value} {base : Nat} {dw dw2 : DataW H} {ps ps2 : List MemPlace}
set_option maxRecDepth 100000 in
theorem row44Operations (hv : Value.okWide Tryd.prog W .any base 24 v) (hd : DataW.Trod enc Tryd.prog W 0 (fun _ => true) true 24 v dw ps)
    (hv2 : Value.okWide Tryd.prog W .any base 27 v2) (hd2 : DataW.Trod enc Tryd.prog W 0 (fun _ => true) true 27 v2 dw2 ps2) (hb : Rows.uptoBulk dw ≤ 1048576 ∧ Rows.uptoBulk dw2 ≤ 1048576) (he : Env W) :
    Calls Tryd.prog 3 #[v, v2] W fun e W' => e = .returned (.bool true) ∧ Below W.heap.size W W' := by
  obtain ⟨k, cs, d, rfl, hr, hf, hbk⟩ := arg_in Tryd.underlying24 hv hd
  obtain ⟨k2, cs2, d2, rfl, hr2, hf2, hbk2⟩ := arg_in Tryd.underlying27 hv2 hd2
  obtain ⟨h1, h2⟩ := plain_fits hf2
  exact calls_of_ac5 (law44Operations d d2 k2 h1 (by omega)) (relL2 (cells0 Tryd.underlying24 (by kernel_rfl) hr) (cells0 Tryd.underlying27 (by kernel_rfl) hr2)) he
end
end Go.Proofs.YtjhjleanihgopaaDoor
