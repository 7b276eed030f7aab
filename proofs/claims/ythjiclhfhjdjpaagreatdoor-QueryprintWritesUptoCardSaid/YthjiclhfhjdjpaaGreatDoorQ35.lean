/- Parts of a proof, merged by a program (shake.py). -/
import Derived.Test.YthjiclhfhjdjpaaGreatDoorQ34
set_option linter.unusedVariables false
set_option linter.unusedSimpArgs false
namespace Go.Proofs.YthjiclhfhjdjpaaGreatDoor
open Go.RowKit
set_option linter.unusedSectionVars false
attribute [local irreducible] wpList Calls Code.wp AW AWo OpOk seqK blockK scopeK loopK endK AC absLex Yld Sub
attribute [local irreducible] ACB ACX absLexG YldG absLexH
set_option maxHeartbeats 8000000 in
set_option maxRecDepth 100000 in
theorem cmpStr1E (a b : ByteArray) : AC EN Tryz.prog 335 [.c (.string a), .c (.string b)] (.c (.int .i64 (Lib.compareBytes (tx a) (tx b)))) :=
  ac_of fun s w us hus _ => by
    obtain ⟨u, u2, rfl, h1, h2⟩ := rel_two hus
    rw [rel] at h1 h2
    obtain ⟨rfl, -⟩ := h1
    obtain ⟨rfl, -⟩ := h2
    exact ⟨i64_small (cmpB_range _ _), (cmpStrC a b w).mono fun e w' h => ⟨h.1, by rw [h.2]; exact Below.refl _ _⟩⟩
set_option maxRecDepth 100000 in
set_option maxHeartbeats 8000000 in
theorem cmpStr_acE (a b : ByteArray) : AC EN Tryz.prog 294 [.c (.string a), .c (.string b)] (.c (.int .i64 (Lib.compareBytes (tx a) (tx b)))) := by
  have h1 := cmpStr1E a b
  refine ac_enter 8 Tryz.func294 rfl rfl rfl rfl ?_
  intro s w he
  repeat' (first
 | refine aw_region ?_
 | refine awo_nil ?_
 | refine k_seq ?_
 | (apply aw_1
    conv => whnf
    refine ⟨?_, trivial⟩)
 | (apply s_1
    conv => whnf; arg 1; arg 4; arg 3; whnf
    refine ⟨?_, ?_⟩)
 | (apply s_call rfl
    · conv => lhs; whnf
    · conv => lhs; whnf
    · first | exact h1)
 | refine k_end_ret ?_
 | (refine ⟨_, by conv => lhs; whnf; arg 2; whnf, ?_⟩; conv => rhs; whnf)
 | exact trivial)
set_option maxRecDepth 100000 in
set_option maxHeartbeats 8000000 in
theorem nan_acE (a : Int) : AC EN Tryz.prog 262 [.c (.int .i64 a)] (.c (.bool false)) := by
  refine ac_enter 6 Tryz.func262 rfl rfl rfl rfl ?_
  intro s w he
  repeat' (first
 | refine aw_region ?_
 | refine awo_nil ?_
 | refine k_seq ?_
 | (apply aw_1
    conv => whnf
    refine ⟨?_, trivial⟩)
 | (apply s_1
    conv => whnf; arg 1; arg 4; arg 3; whnf
    refine ⟨?_, ?_⟩)
 | refine k_end_ret ?_
 | (refine ⟨_, by conv => lhs; whnf; arg 2; whnf, ?_⟩; conv => rhs; whnf)
 | exact trivial)
  simp
set_option maxRecDepth 100000 in
set_option maxHeartbeats 8000000 in
theorem cmpInt_acE (a b : Int) : AC EN Tryz.prog 189 [.c (.int .i64 a), .c (.int .i64 b)] (.c (.int .i64 (ordI a b))) := by
  have h1 := nan_acE a
  have h2 := nan_acE b
  refine ac_enter 20 Tryz.func189 rfl rfl rfl rfl ?_
  intro s w he
  repeat' (first
 | refine aw_region ?_
 | refine awo_nil ?_
 | refine k_seq ?_
 | (apply aw_1
    conv => whnf
    refine ⟨?_, trivial⟩)
 | (apply s_1
    conv => whnf; arg 1; arg 4; arg 3; whnf
    refine ⟨?_, ?_⟩)
 | (apply s_call rfl
    · conv => lhs; whnf
    · conv => lhs; whnf
    · first | exact h1 | exact h2)
 | (refine aw_cond (by conv => lhs; whnf) ?_ ?_ <;> intro hb)
 | refine k_seq_ret ?_
 | refine k_end_ret ?_
 | (refine ⟨_, by conv => lhs; whnf; arg 2; whnf, ?_⟩; conv => rhs; whnf)
 | exact trivial)
  all_goals (simp only [decide_eq_true_eq, decide_eq_false_iff_not] at *; unfold ordI)
  · rw [if_pos (by omega)]
  · rw [if_neg (by omega), if_pos (by omega)]
  · rw [if_neg (by omega), if_neg (by omega)]
set_option maxRecDepth 100000 in
set_option maxHeartbeats 8000000 in
theorem key_acE (x : D) (i : Nat) : AC EN Tryz.prog 295 [.agg (cellsV Tryz.prog 12 84 x), .c (.int .i64 i)] (.c (.string (keyD x i))) := by
  refine ac_enter 15 Tryz.func295 rfl rfl rfl rfl ?_
  intro s w he
  repeat' (first
 | refine aw_region ?_
 | refine awo_nil ?_
 | refine k_seq ?_
 | (apply aw_1
    conv => whnf
    refine ⟨?_, trivial⟩)
 | (apply s_1
    conv => whnf; arg 1; arg 4; arg 3; whnf
    refine ⟨?_, ?_⟩)
 | (apply s_box rfl rfl rfl rfl
    · conv => lhs; whnf; arg 1; whnf
    · rfl)
 | (refine aw_cond (by conv => lhs; whnf) ?_ ?_ <;> intro hb)
 | refine k_seq_ret ?_
 | refine k_end_ret ?_
 | (refine ⟨_, by conv => lhs; whnf; arg 2; whnf, ?_⟩; conv => rhs; whnf)
 | exact trivial)
  · have hb : decide ((i : Int) < (x.f 4).l.length) = true := hb
    unfold keyD
    rw [if_pos (by simpa using hb)]
    rfl
  · have hb : decide ((i : Int) < (x.f 4).l.length) = true := hb
    show 0 ≤ (i : Int) ∧ (i : Int) < (x.f 4).l.length
    simp at hb; omega
  · have hb : decide ((i : Int) < (x.f 4).l.length) = false := hb
    unfold keyD
    rw [if_neg (by simpa using hb)]
set_option maxHeartbeats 8000000 in
set_option maxRecDepth 100000 in
theorem cmpP_acE : ∀ (k : Nat) (a b : D), Dp k a → Dp k b → bulkD a ≤ 1000000000 → bulkD b ≤ 1000000000 → AC EN Tryz.prog 229 [.agg (cellsV Tryz.prog 12 84 a), .agg (cellsV Tryz.prog 12 84 b)] (.c (.int .i64 (cmpV k a b)))
  | 0, a, b, h, _, _, _ => h.elim
  | k + 1, a, b, h1, h2, hb1, hb2 => by
    have i1 := bk_in hb1
    have i2 := bk_in hb2
    have l1 := i1.items
    have l2 := i2.items
    have ih := fun i (hi : i < (a.f 3).l.length) (hj : i < (b.f 3).l.length) => cmpP_acE k _ _ (h1 i hi) (h2 i hj) (by have := i1.at_ i hi; omega) (by have := i2.at_ i hj; omega)
    have c1 := fun i => key_acE a i
    have c2 := fun i => key_acE b i
    have c3 := fun x y => cmpStr_acE x y
    have c4 := fun x y => cmpInt_acE x y
    refine ac_enter 84 Tryz.func229 rfl rfl rfl rfl ?_
    intro s w he
    repeat' (first
 | refine aw_region ?_
 | refine awo_nil ?_
 | refine k_seq ?_
 | (apply aw_1
    conv => whnf
    refine ⟨?_, trivial⟩)
 | (apply s_1
    conv => whnf; arg 1; arg 4; arg 3; whnf
    refine ⟨?_, ?_⟩)
 | (apply s_box rfl rfl rfl rfl
    · conv => lhs; whnf; arg 1; whnf
    · rfl)
 | exact trivial)
    refine aw_loop (fun j st => (j = 1 ∧ Sub (cx EN Tryz.prog s w he) st (HV0 a b)) ∨ (j = 0 ∧ Sub (cx EN Tryz.prog s w he) st (HV1 (cmpV (k + 1) a b)))) 1 (.inl ⟨rfl, ?_⟩) ?_
    · exact Sub.live ⟨rfl, rfl, rfl, trivial⟩ ⟨rfl, rfl, trivial⟩
    · rintro j st (⟨rfl, hs2⟩ | ⟨rfl, hs2⟩)
      · refine aw_sub hs2 ?_
        have hC : cmpV (k + 1) a b = if (a.f 0).n != (b.f 0).n then ordI (a.f 0).n (b.f 0).n
          else if (a.f 1).n != (b.f 1).n then ordI (a.f 1).n (b.f 1).n
          else if !((a.f 2).s.toList == (b.f 2).s.toList) then Lib.compareBytes (tx (a.f 2).s) (tx (b.f 2).s)
          else cmpIt (cmpV k) a b (min (a.f 3).l.length (b.f 3).l.length) 0 := rfl
        generalize cmpV (k + 1) a b = R at hC ⊢
        repeat' (first
 | refine aw_region ?_
 | refine awo_nil ?_
 | refine k_seq ?_
 | refine k_block ?_
 | (apply aw_1
    conv => whnf
    refine ⟨?_, trivial⟩)
 | (apply s_1
    conv => whnf; arg 1; arg 4; arg 3; whnf
    refine ⟨?_, ?_⟩)
 | (apply s_call rfl
    · conv => lhs; whnf
    · conv => lhs; whnf
    · first | exact c1 _ | exact c2 _ | exact c3 _ _ | exact c4 _ _)
 | (refine aw_cond (by conv => lhs; whnf) ?_ ?_ <;> intro hb)
 | refine k_seq_exit ?_
 | refine k_block_hit rfl ?_
 | refine k_block_miss rfl ?_
 | refine k_scope_ret ?_
 | refine k_loop_exit ?_
 | refine k_end_ret ?_
 | (refine ⟨_, by conv => lhs; whnf; arg 2; whnf, ?_⟩; conv => rhs; whnf)
 | exact trivial)
        · have e1 : ((a.f 0).n != (b.f 0).n) = true := by assumption
          rw [hC, if_pos e1]
        · have e1 : ((a.f 0).n != (b.f 0).n) = false := by assumption
          have e2 : ((a.f 1).n != (b.f 1).n) = true := by assumption
          rw [hC, if_neg (by rw [e1]; decide), if_pos e2]
        · have e1 : ((a.f 0).n != (b.f 0).n) = false := by assumption
          have e2 : ((a.f 1).n != (b.f 1).n) = false := by assumption
          have e3 : (!((a.f 2).s.toList == (b.f 2).s.toList)) = true := by assumption
          rw [hC, if_neg (by rw [e1]; decide), if_neg (by rw [e2]; decide), if_pos e3]
        · have e1 : ((a.f 0).n != (b.f 0).n) = false := by assumption
          have e2 : ((a.f 1).n != (b.f 1).n) = false := by assumption
          have e3 : (!((a.f 2).s.toList == (b.f 2).s.toList)) = false := by assumption
          rw [if_neg (by rw [e1]; decide), if_neg (by rw [e2]; decide), if_neg (by rw [e3]; decide)] at hC
          refine aw_loop (fun j st => ∃ i, i + j = min (a.f 3).l.length (b.f 3).l.length ∧ R = cmpIt (cmpV k) a b j i ∧ Sub (cx EN Tryz.prog s w he) st (HVI a b i)) (min (a.f 3).l.length (b.f 3).l.length) ⟨0, by omega, hC, ?_⟩ ?_
          · refine Sub.live ⟨rfl, rfl, rfl, ?_, rfl, trivial⟩ ⟨rfl, rfl, trivial⟩
            show V.c (.int .i64 (if ((b.f 3).l.length : Int) < (a.f 3).l.length then ((b.f 3).l.length : Int) else ((a.f 3).l.length : Int))) = _
            rw [min_int]
          · clear e1 e2 e3
            rintro j st ⟨i, hij, hR, hs2⟩
            refine aw_sub hs2 ?_
            have ih2 := fun (h : decide ((i : Int) < ((min (a.f 3).l.length (b.f 3).l.length : Nat) : Int)) = true) => ih i (by simp at h; omega) (by simp at h; omega)
            repeat' (first
 | refine aw_region ?_
 | refine awo_nil ?_
 | refine k_seq ?_
 | refine k_block ?_
 | (apply aw_1
    conv => whnf
    refine ⟨?_, trivial⟩)
 | (apply s_1
    conv => whnf; arg 1; arg 4; arg 3; whnf
    refine ⟨?_, ?_⟩)
 | (apply s_call rfl
    · conv => lhs; whnf
    · conv => lhs; whnf
    · first | exact c1 i | exact c2 i | exact c3 _ _ | exact ih2 (by assumption) | exact c4 _ _)
 | (apply aw_draw (by kernel_rfl) (by kernel_rfl))
 | apply y_nil
 | (apply y_val rfl
    · conv => lhs; whnf
    · conv => lhs; whnf; arg 2; whnf)
 | (apply y_call rfl
    · conv => lhs; whnf
    · conv => lhs; whnf
    · first | exact c1 i | exact c2 i | exact c3 _ _ | exact ih2 (by assumption) | exact c4 _ _)
 | exact apartB_none
 | exact apartB_nil
 | exact (1000000 : Nat)
 | (refine aw_cond (by conv => lhs; whnf) ?_ ?_ <;> intro hb)
 | refine k_seq_exit ?_
 | refine k_block_hit rfl ?_
 | refine k_block_miss rfl ?_
 | refine k_scope_ret ?_
 | refine k_loop_exit ?_
 | refine k_end_ret ?_
 | (refine ⟨_, by conv => lhs; whnf; arg 2; whnf, ?_⟩; conv => rhs; whnf)
 | exact trivial)
            · have h0 : decide ((i : Int) < ((min (a.f 3).l.length (b.f 3).l.length : Nat) : Int)) = true := by assumption
              have h1 : (Lib.compareBytes (tx (keyD a i)) (tx (keyD b i)) != 0) = true := by assumption
              obtain ⟨j, rfl⟩ : ∃ q, j = q + 1 := ⟨j - 1, by simp at h0; omega⟩
              rw [hR, cmpIt, if_pos h1]
            · have h0 : decide ((i : Int) < ((min (a.f 3).l.length (b.f 3).l.length : Nat) : Int)) = true := by assumption
              have h1 : (Lib.compareBytes (tx (keyD a i)) (tx (keyD b i)) != 0) = false := by assumption
              have h2 : (cmpV k (gD (a.f 3).l i) (gD (b.f 3).l i) != 0) = true := by assumption
              obtain ⟨j, rfl⟩ : ∃ q, j = q + 1 := ⟨j - 1, by simp at h0; omega⟩
              rw [hR, cmpIt, if_neg (by rw [h1]; decide), if_pos h2]
            · have h0 : decide ((i : Int) < ((min (a.f 3).l.length (b.f 3).l.length : Nat) : Int)) = true := by assumption
              have h1 : (Lib.compareBytes (tx (keyD a i)) (tx (keyD b i)) != 0) = false := by assumption
              have h2 : (cmpV k (gD (a.f 3).l i) (gD (b.f 3).l i) != 0) = false := by assumption
              obtain ⟨j, rfl⟩ : ∃ q, j = q + 1 := ⟨j - 1, by simp at h0; omega⟩
              rw [cmpIt, if_neg (by rw [h1]; decide), if_neg (by rw [h2]; decide)] at hR
              exact k_loop_next (j' := j) (by omega) ⟨i + 1, by omega, hR, Sub.live ⟨rfl, rfl, rfl, rfl, rfl, trivial⟩ ⟨rfl, rfl, trivial⟩⟩
            · exact i64_ok (by omega)
            · have h0 : decide ((i : Int) < ((min (a.f 3).l.length (b.f 3).l.length : Nat) : Int)) = true := by assumption
              show 0 ≤ (i : Int) ∧ (i : Int) < (b.f 3).l.length
              simp at h0; omega
            · have h0 : decide ((i : Int) < ((min (a.f 3).l.length (b.f 3).l.length : Nat) : Int)) = true := by assumption
              show 0 ≤ (i : Int) ∧ (i : Int) < (a.f 3).l.length
              simp at h0; omega
            · have h0 : decide ((i : Int) < ((min (a.f 3).l.length (b.f 3).l.length : Nat) : Int)) = false := by assumption
              obtain rfl : j = 0 := by simp at h0; omega
              refine k_loop_next (j' := 0) (by omega) (.inr ⟨rfl, Sub.live ⟨?_, rfl, trivial⟩ trivial⟩)
              rw [hR]; rfl
            · exact i64_ok (by omega)
      · refine aw_sub hs2 ?_
        repeat' (first
 | refine aw_region ?_
 | refine awo_nil ?_
 | refine k_seq ?_
 | (apply aw_1
    conv => whnf
    refine ⟨?_, trivial⟩)
 | (apply s_1
    conv => whnf; arg 1; arg 4; arg 3; whnf
    refine ⟨?_, ?_⟩)
 | refine k_seq_exit ?_
 | refine k_block_hit rfl ?_
 | refine k_scope_ret ?_
 | refine k_loop_exit ?_
 | refine k_end_ret ?_
 | (refine ⟨_, by conv => lhs; whnf; arg 2; whnf, ?_⟩; conv => rhs; whnf)
 | exact trivial)
set_option maxHeartbeats 8000000 in
set_option maxRecDepth 100000 in
theorem same_valE (k : Nat) (a b : D) (h1 : Dp k a) (h2 : Dp k b) (hb1 : bulkD a ≤ 1000000000) (hb2 : bulkD b ≤ 1000000000) : AC EN Tryz.prog 154 [.agg (cellsV Tryz.prog 12 84 a), .agg (cellsV Tryz.prog 12 84 b)] (.c (.bool (cmpV k a b == 0))) := by
  have hc := cmpP_acE k a b h1 h2 hb1 hb2
  refine ac_enter 9 Tryz.func154 rfl rfl rfl rfl ?_
  intro s w he
  repeat' (first
 | refine aw_region ?_
 | refine awo_nil ?_
 | refine k_seq ?_
 | (apply aw_1
    conv => whnf
    refine ⟨?_, trivial⟩)
 | (apply s_1
    conv => whnf; arg 1; arg 4; arg 3; whnf
    refine ⟨?_, ?_⟩)
 | (apply s_call rfl
    · conv => lhs; whnf
    · conv => lhs; whnf
    · first | exact hc)
 | (apply s_box rfl rfl rfl rfl
    · conv => lhs; whnf; arg 1; whnf
    · rfl)
 | refine k_end_ret ?_
 | (refine ⟨_, by conv => lhs; whnf; arg 2; whnf, ?_⟩; conv => rhs; whnf)
 | exact trivial)
def eqL (f : D → D → Bool) (l m : List D) : Bool := (l.length == m.length) && (List.range l.length).all fun i => f (gD l i) (gD m i)
set_option maxHeartbeats 8000000 in
set_option maxRecDepth 100000 in
theorem eqL_ne {f : D → D → Bool} {l m : List D} (h : ((l.length : Int) != (m.length : Int)) = true) : eqL f l m = false := by
  have : ¬ l.length = m.length := by simp at h; omega
  simp [eqL, this]
set_option maxHeartbeats 8000000 in
set_option maxRecDepth 100000 in
theorem eqL_len {l m : List D} (h : ((l.length : Int) != (m.length : Int)) = false) : l.length = m.length := by simp at h; omega
set_option maxHeartbeats 8000000 in
set_option maxRecDepth 100000 in
theorem eqL_bad {f : D → D → Bool} {l m : List D} {i : Nat} (hi : i < l.length) (h : f (gD l i) (gD m i) = false) : eqL f l m = false := by
  unfold eqL
  rw [Bool.and_eq_false_iff]
  right
  rw [List.all_eq_false]
  exact ⟨i, List.mem_range.2 hi, by simp [h]⟩
set_option maxHeartbeats 8000000 in
set_option maxRecDepth 100000 in
theorem eqL_all {f : D → D → Bool} {l m : List D} (hl : l.length = m.length) (h : ∀ i, i < l.length → f (gD l i) (gD m i) = true) : eqL f l m = true := by
  unfold eqL
  rw [Bool.and_eq_true, List.all_eq_true]
  exact ⟨by simp [hl], fun i hi => h i (List.mem_range.1 hi)⟩
def intEq (a b : D) : Bool := a.n == b.n
noncomputable def HEqArg (l m : List D) (i : Nat) : Vst 32 :=
  stS 32 [(1, .sl 86 m), (2, .c (.func (.func 208) #[] #[])), (15, .sl 86 l), (16, .c (.int .i64 l.length)), (17, .c (.int .i64 i))] []
set_option maxRecDepth 100000 in
set_option maxHeartbeats 8000000 in
theorem eqFArg_ac (l m : List D) (f : D → D → Bool) (hn : l.length ≤ 100000000) (hg : ∀ i, i < l.length → i < m.length → AC EN Tryz.prog 208 [.agg (cellsV Tryz.prog 12 86 (gD l i)), .agg (cellsV Tryz.prog 12 86 (gD m i))] (.c (.bool (f (gD l i) (gD m i))))) :
    AC EN Tryz.prog 207 [.sl 86 l, .sl 86 m, .c (.func (.func 208) #[] #[])] (.c (.bool (eqL f l m))) := by
  refine ac_enter 32 Tryz.func207 rfl rfl rfl rfl ?_
  intro s w he
  repeat' (first
 | refine aw_region ?_
 | refine awo_nil ?_
 | refine k_seq ?_
 | (apply aw_1
    conv => whnf
    refine ⟨?_, trivial⟩)
 | (apply s_1
    conv => whnf; arg 1; arg 4; arg 3; whnf
    refine ⟨?_, ?_⟩)
 | (refine aw_cond (by conv => lhs; whnf) ?_ ?_ <;> intro hb)
 | refine k_seq_ret ?_
 | refine k_end_ret ?_
 | (refine ⟨_, by conv => lhs; whnf; arg 2; whnf, ?_⟩; conv => rhs; whnf)
 | exact trivial)
  · rw [eqL_ne (by assumption)]
  · have hlen : l.length = m.length := eqL_len (by assumption)
    refine aw_loop (fun j st => ∃ i, i + j = l.length ∧ (∀ q, q < i → f (gD l q) (gD m q) = true) ∧ Sub (cx EN Tryz.prog s w he) st (HEqArg l m i)) l.length ⟨0, by omega, fun q hq => by omega, ?_⟩ ?_
    · exact Sub.live ⟨rfl, rfl, rfl, rfl, rfl, trivial⟩ trivial
    · rintro j st ⟨i, hij, hall, hs2⟩
      refine aw_sub hs2 ?_
      have hg2 := fun (h : decide ((i : Int) < (l.length : Int)) = true) => hg i (by simpa using h) (by rw [← hlen]; simpa using h)
      repeat' (first
 | refine aw_region ?_
 | refine awo_nil ?_
 | refine k_seq ?_
 | refine k_block ?_
 | (apply aw_1
    conv => whnf
    refine ⟨?_, trivial⟩)
 | (apply s_1
    conv => whnf; arg 1; arg 4; arg 3; whnf
    refine ⟨?_, ?_⟩)
 | (apply s_call rfl
    · conv => lhs; whnf
    · conv => lhs; whnf
    · first | exact hg2 (by assumption))
 | (apply s_store rfl rfl rfl
    · conv => lhs; whnf
    · conv => lhs; whnf; arg 1; whnf
    · conv => lhs; whnf; arg 1; whnf
    · exact ⟨by kernel_rfl, by kernel_rfl⟩
    · rfl)
 | (refine aw_cond (by conv => lhs; whnf) ?_ ?_ <;> intro hb)
 | refine k_seq_exit ?_
 | refine k_seq_ret ?_
 | refine k_block_ret ?_
 | refine k_block_hit rfl ?_
 | refine k_loop_exit ?_
 | refine k_loop_ret ?_
 | refine k_end_ret ?_
 | (refine ⟨_, by conv => lhs; whnf; arg 2; whnf, ?_⟩; conv => rhs; whnf)
 | exact trivial)
      · have hlt : i < l.length := by have h : decide ((i : Int) < (l.length : Int)) = true := by assumption
                                      simpa using h
        have hf : (!f (gD l i) (gD m i)) = true := by assumption
        rw [eqL_bad hlt (by simpa using hf)]
      · have hf : (!f (gD l i) (gD m i)) = false := by assumption
        have hlt : i < l.length := by have h : decide ((i : Int) < (l.length : Int)) = true := by assumption
                                      simpa using h
        refine k_loop_next (j' := j - 1) (by omega) ⟨i + 1, by omega, fun q hq => ?_, Sub.live ⟨rfl, rfl, rfl, rfl, rfl, trivial⟩ trivial⟩
        by_cases e : q = i
        · subst e; simpa using hf
        · exact hall q (by omega)
      · exact i64_ok (by omega)
      · have h : decide ((i : Int) < (l.length : Int)) = true := by assumption
        simp at h; omega
      · have h : decide ((i : Int) < (l.length : Int)) = true := by assumption
        simp at h; omega
      · have h : decide ((i : Int) < (l.length : Int)) = false := by assumption
        simp at h
        rw [eqL_all hlen fun q hq => hall q (by omega)]
noncomputable def HEqDir (l m : List D) (i : Nat) : Vst 32 :=
  stS 32 [(1, .sl 150 m), (2, .c (.func (.func 210) #[] #[])), (15, .sl 150 l), (16, .c (.int .i64 l.length)), (17, .c (.int .i64 i))] []
set_option maxRecDepth 100000 in
set_option maxHeartbeats 8000000 in
theorem eqFDir_ac (l m : List D) (f : D → D → Bool) (hn : l.length ≤ 100000000) (hg : ∀ i, i < l.length → i < m.length → AC EN Tryz.prog 210 [.agg (cellsV Tryz.prog 12 150 (gD l i)), .agg (cellsV Tryz.prog 12 150 (gD m i))] (.c (.bool (f (gD l i) (gD m i))))) :
    AC EN Tryz.prog 209 [.sl 150 l, .sl 150 m, .c (.func (.func 210) #[] #[])] (.c (.bool (eqL f l m))) := by
  refine ac_enter 32 Tryz.func209 rfl rfl rfl rfl ?_
  intro s w he
  repeat' (first
 | refine aw_region ?_
 | refine awo_nil ?_
 | refine k_seq ?_
 | (apply aw_1
    conv => whnf
    refine ⟨?_, trivial⟩)
 | (apply s_1
    conv => whnf; arg 1; arg 4; arg 3; whnf
    refine ⟨?_, ?_⟩)
 | (refine aw_cond (by conv => lhs; whnf) ?_ ?_ <;> intro hb)
 | refine k_seq_ret ?_
 | refine k_end_ret ?_
 | (refine ⟨_, by conv => lhs; whnf; arg 2; whnf, ?_⟩; conv => rhs; whnf)
 | exact trivial)
  · rw [eqL_ne (by assumption)]
  · have hlen : l.length = m.length := eqL_len (by assumption)
    refine aw_loop (fun j st => ∃ i, i + j = l.length ∧ (∀ q, q < i → f (gD l q) (gD m q) = true) ∧ Sub (cx EN Tryz.prog s w he) st (HEqDir l m i)) l.length ⟨0, by omega, fun q hq => by omega, ?_⟩ ?_
    · exact Sub.live ⟨rfl, rfl, rfl, rfl, rfl, trivial⟩ trivial
    · rintro j st ⟨i, hij, hall, hs2⟩
      refine aw_sub hs2 ?_
      have hg2 := fun (h : decide ((i : Int) < (l.length : Int)) = true) => hg i (by simpa using h) (by rw [← hlen]; simpa using h)
      repeat' (first
 | refine aw_region ?_
 | refine awo_nil ?_
 | refine k_seq ?_
 | refine k_block ?_
 | (apply aw_1
    conv => whnf
    refine ⟨?_, trivial⟩)
 | (apply s_1
    conv => whnf; arg 1; arg 4; arg 3; whnf
    refine ⟨?_, ?_⟩)
 | (apply s_call rfl
    · conv => lhs; whnf
    · conv => lhs; whnf
    · first | exact hg2 (by assumption))
 | (apply s_store rfl rfl rfl
    · conv => lhs; whnf
    · conv => lhs; whnf; arg 1; whnf
    · conv => lhs; whnf; arg 1; whnf
    · exact ⟨by kernel_rfl, by kernel_rfl⟩
    · rfl)
 | (refine aw_cond (by conv => lhs; whnf) ?_ ?_ <;> intro hb)
 | refine k_seq_exit ?_
 | refine k_seq_ret ?_
 | refine k_block_ret ?_
 | refine k_block_hit rfl ?_
 | refine k_loop_exit ?_
 | refine k_loop_ret ?_
 | refine k_end_ret ?_
 | (refine ⟨_, by conv => lhs; whnf; arg 2; whnf, ?_⟩; conv => rhs; whnf)
 | exact trivial)
      · have hlt : i < l.length := by have h : decide ((i : Int) < (l.length : Int)) = true := by assumption
                                      simpa using h
        have hf : (!f (gD l i) (gD m i)) = true := by assumption
        rw [eqL_bad hlt (by simpa using hf)]
      · have hf : (!f (gD l i) (gD m i)) = false := by assumption
        have hlt : i < l.length := by have h : decide ((i : Int) < (l.length : Int)) = true := by assumption
                                      simpa using h
        refine k_loop_next (j' := j - 1) (by omega) ⟨i + 1, by omega, fun q hq => ?_, Sub.live ⟨rfl, rfl, rfl, rfl, rfl, trivial⟩ trivial⟩
        by_cases e : q = i
        · subst e; simpa using hf
        · exact hall q (by omega)
      · exact i64_ok (by omega)
      · have h : decide ((i : Int) < (l.length : Int)) = true := by assumption
        simp at h; omega
      · have h : decide ((i : Int) < (l.length : Int)) = true := by assumption
        simp at h; omega
      · have h : decide ((i : Int) < (l.length : Int)) = false := by assumption
        simp at h
        rw [eqL_all hlen fun q hq => hall q (by omega)]
noncomputable def HEqVar (l m : List D) (i : Nat) : Vst 32 :=
  stS 32 [(1, .sl 88 m), (2, .c (.func (.func 128) #[] #[])), (15, .sl 88 l), (16, .c (.int .i64 l.length)), (17, .c (.int .i64 i))] []
set_option maxRecDepth 100000 in
set_option maxHeartbeats 8000000 in
theorem eqFVar_ac (l m : List D) (f : D → D → Bool) (hn : l.length ≤ 100000000) (hg : ∀ i, i < l.length → i < m.length → AC EN Tryz.prog 128 [.agg (cellsV Tryz.prog 12 88 (gD l i)), .agg (cellsV Tryz.prog 12 88 (gD m i))] (.c (.bool (f (gD l i) (gD m i))))) :
    AC EN Tryz.prog 127 [.sl 88 l, .sl 88 m, .c (.func (.func 128) #[] #[])] (.c (.bool (eqL f l m))) := by
  refine ac_enter 32 Tryz.func127 rfl rfl rfl rfl ?_
  intro s w he
  repeat' (first
 | refine aw_region ?_
 | refine awo_nil ?_
 | refine k_seq ?_
 | (apply aw_1
    conv => whnf
    refine ⟨?_, trivial⟩)
 | (apply s_1
    conv => whnf; arg 1; arg 4; arg 3; whnf
    refine ⟨?_, ?_⟩)
 | (refine aw_cond (by conv => lhs; whnf) ?_ ?_ <;> intro hb)
 | refine k_seq_ret ?_
 | refine k_end_ret ?_
 | (refine ⟨_, by conv => lhs; whnf; arg 2; whnf, ?_⟩; conv => rhs; whnf)
 | exact trivial)
  · rw [eqL_ne (by assumption)]
  · have hlen : l.length = m.length := eqL_len (by assumption)
    refine aw_loop (fun j st => ∃ i, i + j = l.length ∧ (∀ q, q < i → f (gD l q) (gD m q) = true) ∧ Sub (cx EN Tryz.prog s w he) st (HEqVar l m i)) l.length ⟨0, by omega, fun q hq => by omega, ?_⟩ ?_
    · exact Sub.live ⟨rfl, rfl, rfl, rfl, rfl, trivial⟩ trivial
    · rintro j st ⟨i, hij, hall, hs2⟩
      refine aw_sub hs2 ?_
      have hg2 := fun (h : decide ((i : Int) < (l.length : Int)) = true) => hg i (by simpa using h) (by rw [← hlen]; simpa using h)
      repeat' (first
 | refine aw_region ?_
 | refine awo_nil ?_
 | refine k_seq ?_
 | refine k_block ?_
 | (apply aw_1
    conv => whnf
    refine ⟨?_, trivial⟩)
 | (apply s_1
    conv => whnf; arg 1; arg 4; arg 3; whnf
    refine ⟨?_, ?_⟩)
 | (apply s_call rfl
    · conv => lhs; whnf
    · conv => lhs; whnf
    · first | exact hg2 (by assumption))
 | (apply s_store rfl rfl rfl
    · conv => lhs; whnf
    · conv => lhs; whnf; arg 1; whnf
    · conv => lhs; whnf; arg 1; whnf
    · exact ⟨by kernel_rfl, by kernel_rfl⟩
    · rfl)
 | (refine aw_cond (by conv => lhs; whnf) ?_ ?_ <;> intro hb)
 | refine k_seq_exit ?_
 | refine k_seq_ret ?_
 | refine k_block_ret ?_
 | refine k_block_hit rfl ?_
 | refine k_loop_exit ?_
 | refine k_loop_ret ?_
 | refine k_end_ret ?_
 | (refine ⟨_, by conv => lhs; whnf; arg 2; whnf, ?_⟩; conv => rhs; whnf)
 | exact trivial)
      · have hlt : i < l.length := by have h : decide ((i : Int) < (l.length : Int)) = true := by assumption
                                      simpa using h
        have hf : (!f (gD l i) (gD m i)) = true := by assumption
        rw [eqL_bad hlt (by simpa using hf)]
      · have hf : (!f (gD l i) (gD m i)) = false := by assumption
        have hlt : i < l.length := by have h : decide ((i : Int) < (l.length : Int)) = true := by assumption
                                      simpa using h
        refine k_loop_next (j' := j - 1) (by omega) ⟨i + 1, by omega, fun q hq => ?_, Sub.live ⟨rfl, rfl, rfl, rfl, rfl, trivial⟩ trivial⟩
        by_cases e : q = i
        · subst e; simpa using hf
        · exact hall q (by omega)
      · exact i64_ok (by omega)
      · have h : decide ((i : Int) < (l.length : Int)) = true := by assumption
        simp at h; omega
      · have h : decide ((i : Int) < (l.length : Int)) = true := by assumption
        simp at h; omega
      · have h : decide ((i : Int) < (l.length : Int)) = false := by assumption
        simp at h
        rw [eqL_all hlen fun q hq => hall q (by omega)]
noncomputable def HEqSel (l m : List D) (i : Nat) : Vst 32 :=
  stS 32 [(1, .sl 76 m), (2, .c (.func (.func 130) #[] #[])), (15, .sl 76 l), (16, .c (.int .i64 l.length)), (17, .c (.int .i64 i))] []
set_option maxRecDepth 100000 in
set_option maxHeartbeats 8000000 in
theorem eqFSel_ac (l m : List D) (f : D → D → Bool) (hn : l.length ≤ 100000000) (hg : ∀ i, i < l.length → i < m.length → AC EN Tryz.prog 130 [.agg (cellsV Tryz.prog 12 76 (gD l i)), .agg (cellsV Tryz.prog 12 76 (gD m i))] (.c (.bool (f (gD l i) (gD m i))))) :
    AC EN Tryz.prog 129 [.sl 76 l, .sl 76 m, .c (.func (.func 130) #[] #[])] (.c (.bool (eqL f l m))) := by
  refine ac_enter 32 Tryz.func129 rfl rfl rfl rfl ?_
  intro s w he
  repeat' (first
 | refine aw_region ?_
 | refine awo_nil ?_
 | refine k_seq ?_
 | (apply aw_1
    conv => whnf
    refine ⟨?_, trivial⟩)
 | (apply s_1
    conv => whnf; arg 1; arg 4; arg 3; whnf
    refine ⟨?_, ?_⟩)
 | (refine aw_cond (by conv => lhs; whnf) ?_ ?_ <;> intro hb)
 | refine k_seq_ret ?_
 | refine k_end_ret ?_
 | (refine ⟨_, by conv => lhs; whnf; arg 2; whnf, ?_⟩; conv => rhs; whnf)
 | exact trivial)
  · rw [eqL_ne (by assumption)]
  · have hlen : l.length = m.length := eqL_len (by assumption)
    refine aw_loop (fun j st => ∃ i, i + j = l.length ∧ (∀ q, q < i → f (gD l q) (gD m q) = true) ∧ Sub (cx EN Tryz.prog s w he) st (HEqSel l m i)) l.length ⟨0, by omega, fun q hq => by omega, ?_⟩ ?_
    · exact Sub.live ⟨rfl, rfl, rfl, rfl, rfl, trivial⟩ trivial
    · rintro j st ⟨i, hij, hall, hs2⟩
      refine aw_sub hs2 ?_
      have hg2 := fun (h : decide ((i : Int) < (l.length : Int)) = true) => hg i (by simpa using h) (by rw [← hlen]; simpa using h)
      repeat' (first
 | refine aw_region ?_
 | refine awo_nil ?_
 | refine k_seq ?_
 | refine k_block ?_
 | (apply aw_1
    conv => whnf
    refine ⟨?_, trivial⟩)
 | (apply s_1
    conv => whnf; arg 1; arg 4; arg 3; whnf
    refine ⟨?_, ?_⟩)
 | (apply s_call rfl
    · conv => lhs; whnf
    · conv => lhs; whnf
    · first | exact hg2 (by assumption))
 | (apply s_store rfl rfl rfl
    · conv => lhs; whnf
    · conv => lhs; whnf; arg 1; whnf
    · conv => lhs; whnf; arg 1; whnf
    · exact ⟨by kernel_rfl, by kernel_rfl⟩
    · rfl)
 | (refine aw_cond (by conv => lhs; whnf) ?_ ?_ <;> intro hb)
 | refine k_seq_exit ?_
 | refine k_seq_ret ?_
 | refine k_block_ret ?_
 | refine k_block_hit rfl ?_
 | refine k_loop_exit ?_
 | refine k_loop_ret ?_
 | refine k_end_ret ?_
 | (refine ⟨_, by conv => lhs; whnf; arg 2; whnf, ?_⟩; conv => rhs; whnf)
 | exact trivial)
      · have hlt : i < l.length := by have h : decide ((i : Int) < (l.length : Int)) = true := by assumption
                                      simpa using h
        have hf : (!f (gD l i) (gD m i)) = true := by assumption
        rw [eqL_bad hlt (by simpa using hf)]
      · have hf : (!f (gD l i) (gD m i)) = false := by assumption
        have hlt : i < l.length := by have h : decide ((i : Int) < (l.length : Int)) = true := by assumption
                                      simpa using h
        refine k_loop_next (j' := j - 1) (by omega) ⟨i + 1, by omega, fun q hq => ?_, Sub.live ⟨rfl, rfl, rfl, rfl, rfl, trivial⟩ trivial⟩
        by_cases e : q = i
        · subst e; simpa using hf
        · exact hall q (by omega)
      · exact i64_ok (by omega)
      · have h : decide ((i : Int) < (l.length : Int)) = true := by assumption
        simp at h; omega
      · have h : decide ((i : Int) < (l.length : Int)) = true := by assumption
        simp at h; omega
      · have h : decide ((i : Int) < (l.length : Int)) = false := by assumption
        simp at h
        rw [eqL_all hlen fun q hq => hall q (by omega)]
noncomputable def HEqOp (l m : List D) (i : Nat) : Vst 32 :=
  stS 32 [(1, .sl 57 m), (2, .c (.func (.func 63) #[] #[])), (15, .sl 57 l), (16, .c (.int .i64 l.length)), (17, .c (.int .i64 i))] []
set_option maxRecDepth 100000 in
set_option maxHeartbeats 8000000 in
theorem eqFOp_ac (l m : List D) (f : D → D → Bool) (hn : l.length ≤ 100000000) (hg : ∀ i, i < l.length → i < m.length → AC EN Tryz.prog 63 [.agg (cellsV Tryz.prog 12 57 (gD l i)), .agg (cellsV Tryz.prog 12 57 (gD m i))] (.c (.bool (f (gD l i) (gD m i))))) :
    AC EN Tryz.prog 62 [.sl 57 l, .sl 57 m, .c (.func (.func 63) #[] #[])] (.c (.bool (eqL f l m))) := by
  refine ac_enter 32 Tryz.func62 rfl rfl rfl rfl ?_
  intro s w he
  repeat' (first
 | refine aw_region ?_
 | refine awo_nil ?_
 | refine k_seq ?_
 | (apply aw_1
    conv => whnf
    refine ⟨?_, trivial⟩)
 | (apply s_1
    conv => whnf; arg 1; arg 4; arg 3; whnf
    refine ⟨?_, ?_⟩)
 | (refine aw_cond (by conv => lhs; whnf) ?_ ?_ <;> intro hb)
 | refine k_seq_ret ?_
 | refine k_end_ret ?_
 | (refine ⟨_, by conv => lhs; whnf; arg 2; whnf, ?_⟩; conv => rhs; whnf)
 | exact trivial)
  · rw [eqL_ne (by assumption)]
  · have hlen : l.length = m.length := eqL_len (by assumption)
    refine aw_loop (fun j st => ∃ i, i + j = l.length ∧ (∀ q, q < i → f (gD l q) (gD m q) = true) ∧ Sub (cx EN Tryz.prog s w he) st (HEqOp l m i)) l.length ⟨0, by omega, fun q hq => by omega, ?_⟩ ?_
    · exact Sub.live ⟨rfl, rfl, rfl, rfl, rfl, trivial⟩ trivial
    · rintro j st ⟨i, hij, hall, hs2⟩
      refine aw_sub hs2 ?_
      have hg2 := fun (h : decide ((i : Int) < (l.length : Int)) = true) => hg i (by simpa using h) (by rw [← hlen]; simpa using h)
      repeat' (first
 | refine aw_region ?_
 | refine awo_nil ?_
 | refine k_seq ?_
 | refine k_block ?_
 | (apply aw_1
    conv => whnf
    refine ⟨?_, trivial⟩)
 | (apply s_1
    conv => whnf; arg 1; arg 4; arg 3; whnf
    refine ⟨?_, ?_⟩)
 | (apply s_call rfl
    · conv => lhs; whnf
    · conv => lhs; whnf
    · first | exact hg2 (by assumption))
 | (apply s_store rfl rfl rfl
    · conv => lhs; whnf
    · conv => lhs; whnf; arg 1; whnf
    · conv => lhs; whnf; arg 1; whnf
    · exact ⟨by kernel_rfl, by kernel_rfl⟩
    · rfl)
 | (refine aw_cond (by conv => lhs; whnf) ?_ ?_ <;> intro hb)
 | refine k_seq_exit ?_
 | refine k_seq_ret ?_
 | refine k_block_ret ?_
 | refine k_block_hit rfl ?_
 | refine k_loop_exit ?_
 | refine k_loop_ret ?_
 | refine k_end_ret ?_
 | (refine ⟨_, by conv => lhs; whnf; arg 2; whnf, ?_⟩; conv => rhs; whnf)
 | exact trivial)
      · have hlt : i < l.length := by have h : decide ((i : Int) < (l.length : Int)) = true := by assumption
                                      simpa using h
        have hf : (!f (gD l i) (gD m i)) = true := by assumption
        rw [eqL_bad hlt (by simpa using hf)]
      · have hf : (!f (gD l i) (gD m i)) = false := by assumption
        have hlt : i < l.length := by have h : decide ((i : Int) < (l.length : Int)) = true := by assumption
                                      simpa using h
        refine k_loop_next (j' := j - 1) (by omega) ⟨i + 1, by omega, fun q hq => ?_, Sub.live ⟨rfl, rfl, rfl, rfl, rfl, trivial⟩ trivial⟩
        by_cases e : q = i
        · subst e; simpa using hf
        · exact hall q (by omega)
      · exact i64_ok (by omega)
      · have h : decide ((i : Int) < (l.length : Int)) = true := by assumption
        simp at h; omega
      · have h : decide ((i : Int) < (l.length : Int)) = true := by assumption
        simp at h; omega
      · have h : decide ((i : Int) < (l.length : Int)) = false := by assumption
        simp at h
        rw [eqL_all hlen fun q hq => hall q (by omega)]
noncomputable def HEqFrag (l m : List D) (i : Nat) : Vst 32 :=
  stS 32 [(1, .sl 116 m), (2, .c (.func (.func 65) #[] #[])), (15, .sl 116 l), (16, .c (.int .i64 l.length)), (17, .c (.int .i64 i))] []
set_option maxRecDepth 100000 in
set_option maxHeartbeats 8000000 in
theorem eqFFrag_ac (l m : List D) (f : D → D → Bool) (hn : l.length ≤ 100000000) (hg : ∀ i, i < l.length → i < m.length → AC EN Tryz.prog 65 [.agg (cellsV Tryz.prog 12 116 (gD l i)), .agg (cellsV Tryz.prog 12 116 (gD m i))] (.c (.bool (f (gD l i) (gD m i))))) :
    AC EN Tryz.prog 64 [.sl 116 l, .sl 116 m, .c (.func (.func 65) #[] #[])] (.c (.bool (eqL f l m))) := by
  refine ac_enter 32 Tryz.func64 rfl rfl rfl rfl ?_
  intro s w he
  repeat' (first
 | refine aw_region ?_
 | refine awo_nil ?_
 | refine k_seq ?_
 | (apply aw_1
    conv => whnf
    refine ⟨?_, trivial⟩)
 | (apply s_1
    conv => whnf; arg 1; arg 4; arg 3; whnf
    refine ⟨?_, ?_⟩)
 | (refine aw_cond (by conv => lhs; whnf) ?_ ?_ <;> intro hb)
 | refine k_seq_ret ?_
 | refine k_end_ret ?_
 | (refine ⟨_, by conv => lhs; whnf; arg 2; whnf, ?_⟩; conv => rhs; whnf)
 | exact trivial)
  · rw [eqL_ne (by assumption)]
  · have hlen : l.length = m.length := eqL_len (by assumption)
    refine aw_loop (fun j st => ∃ i, i + j = l.length ∧ (∀ q, q < i → f (gD l q) (gD m q) = true) ∧ Sub (cx EN Tryz.prog s w he) st (HEqFrag l m i)) l.length ⟨0, by omega, fun q hq => by omega, ?_⟩ ?_
    · exact Sub.live ⟨rfl, rfl, rfl, rfl, rfl, trivial⟩ trivial
    · rintro j st ⟨i, hij, hall, hs2⟩
      refine aw_sub hs2 ?_
      have hg2 := fun (h : decide ((i : Int) < (l.length : Int)) = true) => hg i (by simpa using h) (by rw [← hlen]; simpa using h)
      repeat' (first
 | refine aw_region ?_
 | refine awo_nil ?_
 | refine k_seq ?_
 | refine k_block ?_
 | (apply aw_1
    conv => whnf
    refine ⟨?_, trivial⟩)
 | (apply s_1
    conv => whnf; arg 1; arg 4; arg 3; whnf
    refine ⟨?_, ?_⟩)
 | (apply s_call rfl
    · conv => lhs; whnf
    · conv => lhs; whnf
    · first | exact hg2 (by assumption))
 | (apply s_store rfl rfl rfl
    · conv => lhs; whnf
    · conv => lhs; whnf; arg 1; whnf
    · conv => lhs; whnf; arg 1; whnf
    · exact ⟨by kernel_rfl, by kernel_rfl⟩
    · rfl)
 | (refine aw_cond (by conv => lhs; whnf) ?_ ?_ <;> intro hb)
 | refine k_seq_exit ?_
 | refine k_seq_ret ?_
 | refine k_block_ret ?_
 | refine k_block_hit rfl ?_
 | refine k_loop_exit ?_
 | refine k_loop_ret ?_
 | refine k_end_ret ?_
 | (refine ⟨_, by conv => lhs; whnf; arg 2; whnf, ?_⟩; conv => rhs; whnf)
 | exact trivial)
      · have hlt : i < l.length := by have h : decide ((i : Int) < (l.length : Int)) = true := by assumption
                                      simpa using h
        have hf : (!f (gD l i) (gD m i)) = true := by assumption
        rw [eqL_bad hlt (by simpa using hf)]
      · have hf : (!f (gD l i) (gD m i)) = false := by assumption
        have hlt : i < l.length := by have h : decide ((i : Int) < (l.length : Int)) = true := by assumption
                                      simpa using h
        refine k_loop_next (j' := j - 1) (by omega) ⟨i + 1, by omega, fun q hq => ?_, Sub.live ⟨rfl, rfl, rfl, rfl, rfl, trivial⟩ trivial⟩
        by_cases e : q = i
        · subst e; simpa using hf
        · exact hall q (by omega)
      · exact i64_ok (by omega)
      · have h : decide ((i : Int) < (l.length : Int)) = true := by assumption
        simp at h; omega
      · have h : decide ((i : Int) < (l.length : Int)) = true := by assumption
        simp at h; omega
      · have h : decide ((i : Int) < (l.length : Int)) = false := by assumption
        simp at h
        rw [eqL_all hlen fun q hq => hall q (by omega)]
noncomputable def HEqInt (l m : List D) (i : Nat) : Vst 26 :=
  stS 26 [(0, .sl 3 l), (1, .sl 3 m), (12, .c (.int .i64 l.length)), (13, .c (.int .i64 i))] []
set_option maxRecDepth 100000 in
set_option maxHeartbeats 8000000 in
theorem eqInt_ac (l m : List D) (hn : l.length ≤ 100000000) : AC EN Tryz.prog 283 [.sl 3 l, .sl 3 m] (.c (.bool (eqL intEq l m))) := by
  refine ac_enter 26 Tryz.func283 rfl rfl rfl rfl ?_
  intro s w he
  repeat' (first
 | refine aw_region ?_
 | refine awo_nil ?_
 | refine k_seq ?_
 | (apply aw_1
    conv => whnf
    refine ⟨?_, trivial⟩)
 | (apply s_1
    conv => whnf; arg 1; arg 4; arg 3; whnf
    refine ⟨?_, ?_⟩)
 | (refine aw_cond (by conv => lhs; whnf) ?_ ?_ <;> intro hb)
 | refine k_seq_ret ?_
 | refine k_end_ret ?_
 | (refine ⟨_, by conv => lhs; whnf; arg 2; whnf, ?_⟩; conv => rhs; whnf)
 | exact trivial)
  · rw [eqL_ne (by assumption)]
  · have hlen : l.length = m.length := eqL_len (by assumption)
    refine aw_loop (fun j st => ∃ i, i + j = l.length ∧ (∀ q, q < i → intEq (gD l q) (gD m q) = true) ∧ Sub (cx EN Tryz.prog s w he) st (HEqInt l m i)) l.length ⟨0, by omega, fun q hq => by omega, ?_⟩ ?_
    · exact Sub.live ⟨rfl, rfl, rfl, rfl, trivial⟩ trivial
    · rintro j st ⟨i, hij, hall, hs2⟩
      refine aw_sub hs2 ?_
      repeat' (first
 | refine aw_region ?_
 | refine awo_nil ?_
 | refine k_seq ?_
 | refine k_block ?_
 | (apply aw_1
    conv => whnf
    refine ⟨?_, trivial⟩)
 | (apply s_1
    conv => whnf; arg 1; arg 4; arg 3; whnf
    refine ⟨?_, ?_⟩)
 | (apply aw_draw (by kernel_rfl) (by kernel_rfl))
 | apply y_nil
 | (apply y_val rfl
    · conv => lhs; whnf
    · conv => lhs; whnf; arg 2; whnf)
 | exact apartB_none
 | exact apartB_nil
 | exact (1000000 : Nat)
 | (refine aw_cond (by conv => lhs; whnf) ?_ ?_ <;> intro hb)
 | refine k_seq_exit ?_
 | refine k_seq_ret ?_
 | refine k_block_ret ?_
 | refine k_block_hit rfl ?_
 | refine k_loop_exit ?_
 | refine k_loop_ret ?_
 | refine k_end_ret ?_
 | (refine ⟨_, by conv => lhs; whnf; arg 2; whnf, ?_⟩; conv => rhs; whnf)
 | exact trivial)
      · have hlt : i < l.length := by have h : decide ((i : Int) < (l.length : Int)) = true := by assumption
                                      simpa using h
        have hf : (!intEq (gD l i) (gD m i)) = true := by assumption
        rw [eqL_bad hlt (by simpa using hf)]
      · have hf : (!intEq (gD l i) (gD m i)) = false := by assumption
        have hlt : i < l.length := by have h : decide ((i : Int) < (l.length : Int)) = true := by assumption
                                      simpa using h
        refine k_loop_next (j' := j - 1) (by omega) ⟨i + 1, by omega, fun q hq => ?_, Sub.live ⟨rfl, rfl, rfl, rfl, trivial⟩ trivial⟩
        by_cases e : q = i
        · subst e; simpa using hf
        · exact hall q (by omega)
      · exact i64_ok (by omega)
      · have h : decide ((i : Int) < (l.length : Int)) = true := by assumption
        simp at h; omega
      · have h : decide ((i : Int) < (l.length : Int)) = true := by assumption
        simp at h; omega
      · have h : decide ((i : Int) < (l.length : Int)) = false := by assumption
        simp at h
        rw [eqL_all hlen fun q hq => hall q (by omega)]
end Go.Proofs.YthjiclhfhjdjpaaGreatDoor
namespace Go.Proofs.YthjiclhfhjdjpaaGreatDoor
open Go.RowKit
set_option linter.unusedSectionVars false
attribute [local irreducible] wpList Calls Code.wp AW AWo OpOk seqK blockK scopeK loopK endK AC absLex Yld Sub
attribute [local irreducible] ACB ACX absLexG YldG absLexH
def valEq (a b : D) : Bool := cmpV (bulkD a + bulkD b) a b == 0
def sEq (a b : D) : Bool := a.s.toList == b.s.toList
def argEq (a b : D) : Bool := sEq (a.f 0) (b.f 0) && valEq (a.f 1) (b.f 1)
def dirEq (a b : D) : Bool := sEq (a.f 0) (b.f 0) && eqL argEq (a.f 1).l (b.f 1).l
def refEq (a b : D) : Bool := sEq (a.f 0) (b.f 0) && eqL intEq (a.f 1).l (b.f 1).l
def varEq (a b : D) : Bool := sEq (a.f 0) (b.f 0) && (refEq (a.f 1) (b.f 1) && ((a.f 2).b == (b.f 2).b && valEq (a.f 3) (b.f 3)))
def selEq : Nat → D → D → Bool
  | 0, _, _ => false
  | k + 1, a, b => ((a.f 0).n == (b.f 0).n) && (sEq (a.f 1) (b.f 1) && (sEq (a.f 2) (b.f 2) && (sEq (a.f 3) (b.f 3) && (eqL argEq (a.f 4).l (b.f 4).l && (eqL dirEq (a.f 5).l (b.f 5).l && eqL (selEq k) (a.f 6).l (b.f 6).l)))))
def opEq (k : Nat) (a b : D) : Bool := ((a.f 0).n == (b.f 0).n) && (sEq (a.f 1) (b.f 1) && (eqL varEq (a.f 2).l (b.f 2).l && eqL (selEq k) (a.f 3).l (b.f 3).l))
def frgEq (k : Nat) (a b : D) : Bool := sEq (a.f 0) (b.f 0) && (sEq (a.f 1) (b.f 1) && eqL (selEq k) (a.f 2).l (b.f 2).l)
def queEq (k : Nat) (a b c d : List D) : Bool := eqL (opEq k) a c && eqL (frgEq k) b d
set_option maxHeartbeats 8000000 in
set_option maxRecDepth 100000 in
theorem valP_ac (a b : D) (ha : bulkD a ≤ 400000000) (hb : bulkD b ≤ 400000000) : AC EN Tryz.prog 154 [.agg (cellsV Tryz.prog 12 84 a), .agg (cellsV Tryz.prog 12 84 b)] (.c (.bool (valEq a b))) :=
  same_valE _ a b (dp_bulk _ _ (by omega)) (dp_bulk _ _ (by omega)) (by omega) (by omega)
set_option maxHeartbeats 8000000 in
set_option maxRecDepth 100000 in
theorem fld_bulk (a : D) (i : Nat) : bulkD (a.f i) ≤ bulkD a ∧ bulkL (a.f i).l ≤ bulkD a ∧ bulkL (a.f i).l < bulkD a := by
  have h1 := wD_f a i
  have h2 := bulkD_wD a
  have h3 := bulkD_wD (a.f i)
  have h4 := wD_list (a.f i)
  omega
set_option maxHeartbeats 8000000 in
set_option maxRecDepth 100000 in
theorem itm_bulk {l : List D} {i : Nat} (h : i < l.length) {N : Nat} (hb : bulkL l ≤ N) : bulkD (gD l i) ≤ N := Nat.le_trans (bulkL_get h) hb
set_option maxHeartbeats 8000000 in
set_option maxRecDepth 100000 in
theorem argP_ac (a b : D) (ha : bulkD a ≤ 100000000) (hb : bulkD b ≤ 100000000) : AC EN Tryz.prog 208 [.agg (cellsV Tryz.prog 12 86 a), .agg (cellsV Tryz.prog 12 86 b)] (.c (.bool (argEq a b))) := by
  have h1 := valP_ac (a.f 1) (b.f 1) (by have := fld_bulk a 1; omega) (by have := fld_bulk b 1; omega)
  unfold argEq sEq
  refine ac_enter 17 Tryz.func208 rfl rfl rfl rfl ?_
  intro s w he
  repeat' (first
 | refine aw_region ?_
 | refine awo_nil ?_
 | refine k_seq ?_
 | (apply aw_1
    conv => whnf
    refine ⟨?_, trivial⟩)
 | (apply s_pick_t rfl rfl
    · conv => lhs; whnf
    · conv => lhs; whnf
    · first | exact bT1 (by assumption) | exact bT2 (by assumption))
 | (apply s_pick_f rfl rfl
    · conv => lhs; whnf
    · conv => lhs; whnf
    · first | exact bF1 (by assumption) | exact bF2 (by assumption))
 | (apply s_1
    conv => whnf; arg 1; arg 4; arg 3; whnf
    refine ⟨?_, ?_⟩)
 | (apply s_box rfl rfl rfl rfl
    · conv => lhs; whnf; arg 1; whnf
    · rfl)
 | (apply s_wanted_val rfl
    · conv => lhs; whnf
    · conv => lhs; whnf
    · first | rfl | assumption
    · conv => lhs; whnf; arg 2; whnf)
 | (apply s_wanted_call rfl
    · conv => lhs; whnf
    · conv => lhs; whnf
    · first | rfl | assumption
    · conv => lhs; whnf
    · first | exact h1)
 | (apply s_skipU rfl
    · conv => lhs; whnf
    · conv => lhs; whnf
    · first | rfl | assumption)
 | (apply s_guard_valU rfl
    · conv => lhs; whnf
    · conv => lhs; whnf
    · conv => lhs; whnf; arg 2; whnf)
 | refine k_end_ret ?_
 | (refine ⟨_, by conv => lhs; whnf; arg 2; whnf, ?_⟩; conv => rhs; whnf)
 | exact trivial
 | intro hg)
  all_goals first | exact Tryz.underlying4 | (simp only [beq_true] at *; simp only [*, Bool.true_and, Bool.false_and, Bool.and_true, Bool.and_false])
set_option maxHeartbeats 8000000 in
set_option maxRecDepth 100000 in
theorem dirP_ac (a b : D) (ha : bulkD a ≤ 100000000) (hb : bulkD b ≤ 100000000) : AC EN Tryz.prog 210 [.agg (cellsV Tryz.prog 12 150 a), .agg (cellsV Tryz.prog 12 150 b)] (.c (.bool (dirEq a b))) := by
  have h1 := eqFArg_ac (a.f 1).l (b.f 1).l argEq (by have := len_bulk (a.f 1).l; have := fld_bulk a 1; omega) fun i hi hj => argP_ac _ _ (by have := fld_bulk a 1; have := itm_bulk hi (Nat.le_refl _); omega) (by have := fld_bulk b 1; have := itm_bulk hj (Nat.le_refl _); omega)
  unfold dirEq sEq
  refine ac_enter 17 Tryz.func210 rfl rfl rfl rfl ?_
  intro s w he
  repeat' (first
 | refine aw_region ?_
 | refine awo_nil ?_
 | refine k_seq ?_
 | (apply aw_1
    conv => whnf
    refine ⟨?_, trivial⟩)
 | (apply s_pick_t rfl rfl
    · conv => lhs; whnf
    · conv => lhs; whnf
    · first | exact bT1 (by assumption) | exact bT2 (by assumption))
 | (apply s_pick_f rfl rfl
    · conv => lhs; whnf
    · conv => lhs; whnf
    · first | exact bF1 (by assumption) | exact bF2 (by assumption))
 | (apply s_1
    conv => whnf; arg 1; arg 4; arg 3; whnf
    refine ⟨?_, ?_⟩)
 | (apply s_box rfl rfl rfl rfl
    · conv => lhs; whnf; arg 1; whnf
    · rfl)
 | (apply s_wanted_val rfl
    · conv => lhs; whnf
    · conv => lhs; whnf
    · first | rfl | assumption
    · conv => lhs; whnf; arg 2; whnf)
 | (apply s_wanted_call rfl
    · conv => lhs; whnf
    · conv => lhs; whnf
    · first | rfl | assumption
    · conv => lhs; whnf
    · first | exact h1)
 | (apply s_skipU rfl
    · conv => lhs; whnf
    · conv => lhs; whnf
    · first | rfl | assumption)
 | (apply s_guard_valU rfl
    · conv => lhs; whnf
    · conv => lhs; whnf
    · conv => lhs; whnf; arg 2; whnf)
 | refine k_end_ret ?_
 | (refine ⟨_, by conv => lhs; whnf; arg 2; whnf, ?_⟩; conv => rhs; whnf)
 | exact trivial
 | intro hg)
  all_goals first | exact Tryz.underlying4 | (simp only [beq_true] at *; simp only [*, Bool.true_and, Bool.false_and, Bool.and_true, Bool.and_false])
set_option maxHeartbeats 8000000 in
set_option maxRecDepth 100000 in
theorem refE_ac (a b : D) (ha : bulkD a ≤ 100000000) (hb : bulkD b ≤ 100000000) : AC EN Tryz.prog 206 [.agg (cellsV Tryz.prog 12 71 a), .agg (cellsV Tryz.prog 12 71 b)] (.c (.bool (refEq a b))) := by
  have h1 := eqInt_ac (a.f 1).l (b.f 1).l (by have := len_bulk (a.f 1).l; have := fld_bulk a 1; omega)
  unfold refEq sEq
  refine ac_enter 17 Tryz.func206 rfl rfl rfl rfl ?_
  intro s w he
  repeat' (first
 | refine aw_region ?_
 | refine awo_nil ?_
 | refine k_seq ?_
 | (apply aw_1
    conv => whnf
    refine ⟨?_, trivial⟩)
 | (apply s_pick_t rfl rfl
    · conv => lhs; whnf
    · conv => lhs; whnf
    · first | exact bT1 (by assumption) | exact bT2 (by assumption))
 | (apply s_pick_f rfl rfl
    · conv => lhs; whnf
    · conv => lhs; whnf
    · first | exact bF1 (by assumption) | exact bF2 (by assumption))
 | (apply s_1
    conv => whnf; arg 1; arg 4; arg 3; whnf
    refine ⟨?_, ?_⟩)
 | (apply s_box rfl rfl rfl rfl
    · conv => lhs; whnf; arg 1; whnf
    · rfl)
 | (apply s_wanted_val rfl
    · conv => lhs; whnf
    · conv => lhs; whnf
    · first | rfl | assumption
    · conv => lhs; whnf; arg 2; whnf)
 | (apply s_wanted_call rfl
    · conv => lhs; whnf
    · conv => lhs; whnf
    · first | rfl | assumption
    · conv => lhs; whnf
    · first | exact h1)
 | (apply s_skipU rfl
    · conv => lhs; whnf
    · conv => lhs; whnf
    · first | rfl | assumption)
 | (apply s_guard_valU rfl
    · conv => lhs; whnf
    · conv => lhs; whnf
    · conv => lhs; whnf; arg 2; whnf)
 | refine k_end_ret ?_
 | (refine ⟨_, by conv => lhs; whnf; arg 2; whnf, ?_⟩; conv => rhs; whnf)
 | exact trivial
 | intro hg)
  all_goals first | exact Tryz.underlying4 | (simp only [beq_true] at *; simp only [*, Bool.true_and, Bool.false_and, Bool.and_true, Bool.and_false])
set_option maxHeartbeats 8000000 in
set_option maxRecDepth 100000 in
theorem varE_ac (a b : D) (ha : bulkD a ≤ 100000000) (hb : bulkD b ≤ 100000000) : AC EN Tryz.prog 128 [.agg (cellsV Tryz.prog 12 88 a), .agg (cellsV Tryz.prog 12 88 b)] (.c (.bool (varEq a b))) := by
  have h1 := refE_ac (a.f 1) (b.f 1) (by have := fld_bulk a 1; omega) (by have := fld_bulk b 1; omega)
  have h2 := valP_ac (a.f 3) (b.f 3) (by have := fld_bulk a 3; omega) (by have := fld_bulk b 3; omega)
  unfold varEq sEq
  refine ac_enter 31 Tryz.func128 rfl rfl rfl rfl ?_
  intro s w he
  repeat' (first
 | refine aw_region ?_
 | refine awo_nil ?_
 | refine k_seq ?_
 | (apply aw_1
    conv => whnf
    refine ⟨?_, trivial⟩)
 | (apply s_pick_t rfl rfl
    · conv => lhs; whnf
    · conv => lhs; whnf
    · first | exact bT1 (by assumption) | exact bT2 (by assumption))
 | (apply s_pick_f rfl rfl
    · conv => lhs; whnf
    · conv => lhs; whnf
    · first | exact bF1 (by assumption) | exact bF2 (by assumption))
 | (apply s_1
    conv => whnf; arg 1; arg 4; arg 3; whnf
    refine ⟨?_, ?_⟩)
 | (apply s_box rfl rfl rfl rfl
    · conv => lhs; whnf; arg 1; whnf
    · rfl)
 | (apply s_wanted_val rfl
    · conv => lhs; whnf
    · conv => lhs; whnf
    · first | rfl | assumption
    · conv => lhs; whnf; arg 2; whnf)
 | (apply s_wanted_call rfl
    · conv => lhs; whnf
    · conv => lhs; whnf
    · first | rfl | assumption
    · conv => lhs; whnf
    · first | exact h1 | exact h2)
 | (apply s_skipU rfl
    · conv => lhs; whnf
    · conv => lhs; whnf
    · first | rfl | assumption)
 | (apply s_guard_valU rfl
    · conv => lhs; whnf
    · conv => lhs; whnf
    · conv => lhs; whnf; arg 2; whnf)
 | refine k_end_ret ?_
 | (refine ⟨_, by conv => lhs; whnf; arg 2; whnf, ?_⟩; conv => rhs; whnf)
 | exact trivial
 | intro hg)
  all_goals first | exact Tryz.underlying4 | (simp only [beq_true] at *; simp only [*, Bool.true_and, Bool.false_and, Bool.and_true, Bool.and_false])
set_option maxHeartbeats 8000000 in
set_option maxRecDepth 100000 in
theorem selE_ac : ∀ (k : Nat) (a b : D), bulkD a < k → bulkD a ≤ 100000000 → bulkD b ≤ 100000000 → AC EN Tryz.prog 130 [.agg (cellsV Tryz.prog 12 76 a), .agg (cellsV Tryz.prog 12 76 b)] (.c (.bool (selEq k a b)))
  | 0, _, _, h, _, _ => by omega
  | k + 1, a, b, h, ha, hb => by
    have h1 := eqFArg_ac (a.f 4).l (b.f 4).l argEq (by have := len_bulk (a.f 4).l; have := fld_bulk a 4; omega) fun i hi hj => argP_ac _ _ (by have := fld_bulk a 4; have := itm_bulk hi (Nat.le_refl _); omega) (by have := fld_bulk b 4; have := itm_bulk hj (Nat.le_refl _); omega)
    have h2 := eqFDir_ac (a.f 5).l (b.f 5).l dirEq (by have := len_bulk (a.f 5).l; have := fld_bulk a 5; omega) fun i hi hj => dirP_ac _ _ (by have := fld_bulk a 5; have := itm_bulk hi (Nat.le_refl _); omega) (by have := fld_bulk b 5; have := itm_bulk hj (Nat.le_refl _); omega)
    have h3 := eqFSel_ac (a.f 6).l (b.f 6).l (selEq k) (by have := len_bulk (a.f 6).l; have := fld_bulk a 6; omega) fun i hi hj => selE_ac k _ _ (by have := fld_bulk a 6; have := itm_bulk hi (Nat.le_refl _); omega) (by have := fld_bulk a 6; have := itm_bulk hi (Nat.le_refl _); omega) (by have := fld_bulk b 6; have := itm_bulk hj (Nat.le_refl _); omega)
    unfold selEq sEq
    refine ac_enter 52 Tryz.func130 rfl rfl rfl rfl ?_
    intro s w he
    repeat' (first
 | refine aw_region ?_
 | refine awo_nil ?_
 | refine k_seq ?_
 | (apply aw_1
    conv => whnf
    refine ⟨?_, trivial⟩)
 | (apply s_pick_t rfl rfl
    · conv => lhs; whnf
    · conv => lhs; whnf
    · first | exact bT1 (by assumption) | exact bT2 (by assumption))
 | (apply s_pick_f rfl rfl
    · conv => lhs; whnf
    · conv => lhs; whnf
    · first | exact bF1 (by assumption) | exact bF2 (by assumption))
 | (apply s_1
    conv => whnf; arg 1; arg 4; arg 3; whnf
    refine ⟨?_, ?_⟩)
 | (apply s_box rfl rfl rfl rfl
    · conv => lhs; whnf; arg 1; whnf
    · rfl)
 | (apply s_wanted_val rfl
    · conv => lhs; whnf
    · conv => lhs; whnf
    · first | rfl | assumption
    · conv => lhs; whnf; arg 2; whnf)
 | (apply s_wanted_call rfl
    · conv => lhs; whnf
    · conv => lhs; whnf
    · first | rfl | assumption
    · conv => lhs; whnf
    · first | exact h1 | exact h2 | exact h3)
 | (apply s_skipU rfl
    · conv => lhs; whnf
    · conv => lhs; whnf
    · first | rfl | assumption)
 | (apply s_guard_valU rfl
    · conv => lhs; whnf
    · conv => lhs; whnf
    · conv => lhs; whnf; arg 2; whnf)
 | refine k_end_ret ?_
 | (refine ⟨_, by conv => lhs; whnf; arg 2; whnf, ?_⟩; conv => rhs; whnf)
 | exact trivial
 | intro hg)
    all_goals first | exact Tryz.underlying4 | (simp only [beq_true] at *; simp only [*, Bool.true_and, Bool.false_and, Bool.and_true, Bool.and_false])
set_option maxHeartbeats 8000000 in
set_option maxRecDepth 100000 in
theorem opE_ac (k : Nat) (a b : D) (hk : bulkD a ≤ k) (ha : bulkD a ≤ 100000000) (hb : bulkD b ≤ 100000000) : AC EN Tryz.prog 63 [.agg (cellsV Tryz.prog 12 57 a), .agg (cellsV Tryz.prog 12 57 b)] (.c (.bool (opEq k a b))) := by
  have h1 := eqFVar_ac (a.f 2).l (b.f 2).l varEq (by have := len_bulk (a.f 2).l; have := fld_bulk a 2; omega) fun i hi hj => varE_ac _ _ (by have := fld_bulk a 2; have := itm_bulk hi (Nat.le_refl _); omega) (by have := fld_bulk b 2; have := itm_bulk hj (Nat.le_refl _); omega)
  have h2 := eqFSel_ac (a.f 3).l (b.f 3).l (selEq k) (by have := len_bulk (a.f 3).l; have := fld_bulk a 3; omega) fun i hi hj => selE_ac k _ _ (by have := fld_bulk a 3; have := itm_bulk hi (Nat.le_refl _); omega) (by have := fld_bulk a 3; have := itm_bulk hi (Nat.le_refl _); omega) (by have := fld_bulk b 3; have := itm_bulk hj (Nat.le_refl _); omega)
  unfold opEq sEq
  refine ac_enter 31 Tryz.func63 rfl rfl rfl rfl ?_
  intro s w he
  repeat' (first
 | refine aw_region ?_
 | refine awo_nil ?_
 | refine k_seq ?_
 | (apply aw_1
    conv => whnf
    refine ⟨?_, trivial⟩)
 | (apply s_pick_t rfl rfl
    · conv => lhs; whnf
    · conv => lhs; whnf
    · first | exact bT1 (by assumption) | exact bT2 (by assumption))
 | (apply s_pick_f rfl rfl
    · conv => lhs; whnf
    · conv => lhs; whnf
    · first | exact bF1 (by assumption) | exact bF2 (by assumption))
 | (apply s_1
    conv => whnf; arg 1; arg 4; arg 3; whnf
    refine ⟨?_, ?_⟩)
 | (apply s_box rfl rfl rfl rfl
    · conv => lhs; whnf; arg 1; whnf
    · rfl)
 | (apply s_wanted_val rfl
    · conv => lhs; whnf
    · conv => lhs; whnf
    · first | rfl | assumption
    · conv => lhs; whnf; arg 2; whnf)
 | (apply s_wanted_call rfl
    · conv => lhs; whnf
    · conv => lhs; whnf
    · first | rfl | assumption
    · conv => lhs; whnf
    · first | exact h1 | exact h2)
 | (apply s_skipU rfl
    · conv => lhs; whnf
    · conv => lhs; whnf
    · first | rfl | assumption)
 | (apply s_guard_valU rfl
    · conv => lhs; whnf
    · conv => lhs; whnf
    · conv => lhs; whnf; arg 2; whnf)
 | refine k_end_ret ?_
 | (refine ⟨_, by conv => lhs; whnf; arg 2; whnf, ?_⟩; conv => rhs; whnf)
 | exact trivial
 | intro hg)
  all_goals first | exact Tryz.underlying4 | (simp only [beq_true] at *; simp only [*, Bool.true_and, Bool.false_and, Bool.and_true, Bool.and_false])
set_option maxHeartbeats 8000000 in
set_option maxRecDepth 100000 in
theorem frgE_ac (k : Nat) (a b : D) (hk : bulkD a ≤ k) (ha : bulkD a ≤ 100000000) (hb : bulkD b ≤ 100000000) : AC EN Tryz.prog 65 [.agg (cellsV Tryz.prog 12 116 a), .agg (cellsV Tryz.prog 12 116 b)] (.c (.bool (frgEq k a b))) := by
  have h1 := eqFSel_ac (a.f 2).l (b.f 2).l (selEq k) (by have := len_bulk (a.f 2).l; have := fld_bulk a 2; omega) fun i hi hj => selE_ac k _ _ (by have := fld_bulk a 2; have := itm_bulk hi (Nat.le_refl _); omega) (by have := fld_bulk a 2; have := itm_bulk hi (Nat.le_refl _); omega) (by have := fld_bulk b 2; have := itm_bulk hj (Nat.le_refl _); omega)
  unfold frgEq sEq
  refine ac_enter 24 Tryz.func65 rfl rfl rfl rfl ?_
  intro s w he
  repeat' (first
 | refine aw_region ?_
 | refine awo_nil ?_
 | refine k_seq ?_
 | (apply aw_1
    conv => whnf
    refine ⟨?_, trivial⟩)
 | (apply s_pick_t rfl rfl
    · conv => lhs; whnf
    · conv => lhs; whnf
    · first | exact bT1 (by assumption) | exact bT2 (by assumption))
 | (apply s_pick_f rfl rfl
    · conv => lhs; whnf
    · conv => lhs; whnf
    · first | exact bF1 (by assumption) | exact bF2 (by assumption))
 | (apply s_1
    conv => whnf; arg 1; arg 4; arg 3; whnf
    refine ⟨?_, ?_⟩)
 | (apply s_box rfl rfl rfl rfl
    · conv => lhs; whnf; arg 1; whnf
    · rfl)
 | (apply s_wanted_val rfl
    · conv => lhs; whnf
    · conv => lhs; whnf
    · first | rfl | assumption
    · conv => lhs; whnf; arg 2; whnf)
 | (apply s_wanted_call rfl
    · conv => lhs; whnf
    · conv => lhs; whnf
    · first | rfl | assumption
    · conv => lhs; whnf
    · first | exact h1)
 | (apply s_skipU rfl
    · conv => lhs; whnf
    · conv => lhs; whnf
    · first | rfl | assumption)
 | (apply s_guard_valU rfl
    · conv => lhs; whnf
    · conv => lhs; whnf
    · conv => lhs; whnf; arg 2; whnf)
 | refine k_end_ret ?_
 | (refine ⟨_, by conv => lhs; whnf; arg 2; whnf, ?_⟩; conv => rhs; whnf)
 | exact trivial
 | intro hg)
  all_goals first | exact Tryz.underlying4 | (simp only [beq_true] at *; simp only [*, Bool.true_and, Bool.false_and, Bool.and_true, Bool.and_false])
set_option maxHeartbeats 8000000 in
set_option maxRecDepth 100000 in
theorem sameQ_ac (k : Nat) (a b c d : List D) (hka : bulkL a ≤ k) (hkb : bulkL b ≤ k) (ha : bulkL a ≤ 100000000) (hb : bulkL b ≤ 100000000) (hc : bulkL c ≤ 100000000) (hd : bulkL d ≤ 100000000) : AC EN Tryz.prog 31 [.agg [.sl 57 a, .sl 116 b], .agg [.sl 57 c, .sl 116 d]] (.c (.bool (queEq k a b c d))) := by
  have h1 := eqFOp_ac a c (opEq k) (by have := len_bulk a; omega) fun i hi hj => opE_ac k _ _ (itm_bulk hi hka) (itm_bulk hi ha) (itm_bulk hj hc)
  have h2 := eqFFrag_ac b d (frgEq k) (by have := len_bulk b; omega) fun i hi hj => frgE_ac k _ _ (itm_bulk hi hkb) (itm_bulk hi hb) (itm_bulk hj hd)
  unfold queEq
  refine ac_enter 17 Tryz.func31 rfl rfl rfl rfl ?_
  intro s w he
  repeat' (first
 | refine aw_region ?_
 | refine awo_nil ?_
 | refine k_seq ?_
 | (apply aw_1
    conv => whnf
    refine ⟨?_, trivial⟩)
 | (apply s_pick_t rfl rfl
    · conv => lhs; whnf
    · conv => lhs; whnf
    · first | exact bT1 (by assumption) | exact bT2 (by assumption))
 | (apply s_pick_f rfl rfl
    · conv => lhs; whnf
    · conv => lhs; whnf
    · first | exact bF1 (by assumption) | exact bF2 (by assumption))
 | (apply s_1
    conv => whnf; arg 1; arg 4; arg 3; whnf
    refine ⟨?_, ?_⟩)
 | (apply s_call rfl
    · conv => lhs; whnf
    · conv => lhs; whnf
    · first | exact h1 | exact h2)
 | (apply s_box rfl rfl rfl rfl
    · conv => lhs; whnf; arg 1; whnf
    · rfl)
 | (apply s_wanted_val rfl
    · conv => lhs; whnf
    · conv => lhs; whnf
    · first | rfl | assumption
    · conv => lhs; whnf; arg 2; whnf)
 | (apply s_wanted_call rfl
    · conv => lhs; whnf
    · conv => lhs; whnf
    · first | rfl | assumption
    · conv => lhs; whnf
    · first | exact h1 | exact h2)
 | (apply s_skipU rfl
    · conv => lhs; whnf
    · conv => lhs; whnf
    · first | rfl | assumption)
 | (apply s_guard_valU rfl
    · conv => lhs; whnf
    · conv => lhs; whnf
    · conv => lhs; whnf; arg 2; whnf)
 | refine k_end_ret ?_
 | (refine ⟨_, by conv => lhs; whnf; arg 2; whnf, ?_⟩; conv => rhs; whnf)
 | exact trivial
 | intro hg)
  all_goals first | exact Tryz.underlying4 | (simp only [beq_true] at *; simp only [*, Bool.true_and, Bool.false_and, Bool.and_true, Bool.and_false])
end Go.Proofs.YthjiclhfhjdjpaaGreatDoor
namespace Go.Proofs.YthjiclhfhjdjpaaGreatDoor
open Go.RowKit
set_option linter.unusedSectionVars false
attribute [local irreducible] wpList Calls Code.wp AW AWo OpOk seqK blockK scopeK loopK endK AC absLex Yld Sub
attribute [local irreducible] ACB absLexG YldG
set_option maxHeartbeats 8000000 in
set_option maxRecDepth 100000 in
theorem selsP_ac (K f : Nat) (l : List D) (h : SelsOk K (f + 1) l) (hw : ∀ i, wideD (gD l i)) (hb : bulkL l ≤ 1048576) (hf : f ≤ 299) :
    AC EN Tryz.prog 26 [.sl 76 l] (.c (.string (bs (selsT K (f + 1) 1 l)))) := by
  have h1 := selsT_len K (f + 1) 1 l hw
  have h2 : (4 * (1 + (f + 1)) + 70) * bulkL l ≤ 1274 * 1048576 := Nat.mul_le_mul (by omega) hb
  have l1 : ACB EN Tryz.prog 55 [.bx (pn 0) 0, .sl 76 l, .c (.int .i64 1)] [.bld 110 5 []] (.tup []) [.bld 110 5 ([] ++ selsT K (f + 1) 1 l)] :=
    sels_acb K f 1 l [] h hw hb (by omega) (by simp only [List.length_nil]; omega)
  rw [List.nil_append] at l1
  refine ac_enter 8 Tryz.func26 rfl rfl rfl rfl ?_
  intro s w he
  repeat' (first
 | (apply s_bcall0 rfl
    · conv => lhs; whnf
    · conv => lhs; whnf
    · rfl
    · rfl
    · first | exact l1
    · rfl
    · exact fun _ => rfl
    · exact fun _ => rfl)
 | (apply s_bs rfl
    · conv => lhs; whnf
    · conv => lhs; whnf
    · rfl
    · conv => lhs; whnf; arg 1; whnf
    · exact ⟨rfl, rfl⟩
    · rfl)
 | refine aw_region ?_
 | refine awo_nil ?_
 | refine k_seq ?_
 | (apply aw_1
    conv => whnf
    refine ⟨?_, trivial⟩)
 | (apply s_1
    conv => whnf; arg 1; arg 4; arg 3; whnf
    refine ⟨?_, ?_⟩)
 | refine k_end_ret ?_
 | (refine ⟨_, by conv => lhs; whnf; arg 2; whnf, ?_⟩; conv => rhs; whnf)
 | exact trivial)
  all_goals (unfold maxLen; omega)
noncomputable def HpO (K f : Nat) (a b : List D) (i : Nat) : Vst 48 :=
  stS 48 [(1, .bx 1 0), (3, .own 3 9 (strsJ (fun i => opB K f (gD a i)) i)), (9, .sl 57 a), (10, .c (.int .i64 a.length)), (11, .c (.int .i64 i))] [(1, .box 41 [.sl 57 a, .sl 116 b]), (3, .tok 9 (strsJ (fun i => opB K f (gD a i)) i).length)]
noncomputable def HpF (K f : Nat) (a b : List D) (i : Nat) : Vst 48 :=
  stS 48 [(1, .bx 1 0), (3, .own 3 9 (strsJ (fun i => opB K f (gD a i)) a.length ++ strsJ (fun i => fragB K f (gD b i)) i)), (25, .sl 116 b), (26, .c (.int .i64 b.length)), (27, .c (.int .i64 i))] [(1, .box 41 [.sl 57 a, .sl 116 b]), (3, .tok 9 (strsJ (fun i => opB K f (gD a i)) a.length ++ strsJ (fun i => fragB K f (gD b i)) i).length)]
set_option maxHeartbeats 8000000 in
set_option maxRecDepth 100000 in
theorem DocOk.op {K f : Nat} {a b : List D} (h : DocOk K f (.obj [.list a, .list b])) {i : Nat} (hi : i < a.length) : VarsOk K ((gD a i).f 2).l ∧ SelsOk K (f + 1) ((gD a i).f 3).l ∧ wideD (gD a i) ∧ bulkD (gD a i) ≤ 1048576 :=
  ⟨h.vars i hi, h.sels i hi, (h.wide.f 0).l i, by
    have h1 := bulkL_get hi
    have h2 := h.bulk
    have : bulkD (.obj [.list a, .list b]) = bulkL a + bulkL b + 3 := by simp [bulkD, bulkL]; omega
    omega⟩
set_option maxHeartbeats 8000000 in
set_option maxRecDepth 100000 in
theorem DocOk.frg {K f : Nat} {a b : List D} (h : DocOk K f (.obj [.list a, .list b])) {i : Nat} (hi : i < b.length) : SelsOk K (f + 1) ((gD b i).f 2).l ∧ wideD (gD b i) ∧ bulkD (gD b i) ≤ 1048576 :=
  ⟨h.frag i hi, (h.wide.f 1).l i, by
    have h1 := bulkL_get hi
    have h2 := h.bulk
    have : bulkD (.obj [.list a, .list b]) = bulkL a + bulkL b + 3 := by simp [bulkD, bulkL]; omega
    omega⟩
set_option maxHeartbeats 8000000 in
set_option maxRecDepth 100000 in
theorem fragH_bs (fr : D) : ((⟨#[102, 114, 97, 103, 109, 101, 110, 116, 32]⟩ : ByteArray) ++ (fr.f 0).s ++ ⟨#[32, 111, 110, 32]⟩ ++ (fr.f 1).s ++ ⟨#[32, 123]⟩) = bs (fragH fr) := by
  unfold fragH
  rw [← bs_append, ← bs_append, ← bs_append, ← bs_append, bs_tx, bs_tx]
  rfl
set_option maxHeartbeats 8000000 in
set_option maxRecDepth 100000 in
theorem printP_ac (K f : Nat) (a b : List D) (h : DocOk K f (.obj [.list a, .list b])) : AC EN Tryz.prog 28 [.agg [.sl 57 a, .sl 116 b]] (.c (.string (bs (docT K (f + 1) (.obj [.list a, .list b]))))) := by
  have hbk : bulkD (.obj [.list a, .list b]) = bulkL a + bulkL b + 3 := by simp [bulkD, bulkL]; omega
  have hb0 := h.bulk
  have hdp := h.deep
  have hla := len_bulk a
  have hlb := len_bulk b
  have hdl := docT_len K f _ h.wide hdp
  have hj : AC EN Tryz.prog 59 [.sl 9 (strsJ (fun i => opB K (f + 1) (gD a i)) a.length ++ strsJ (fun i => fragB K (f + 1) (gD b i)) b.length), .c (.string ⟨#[10]⟩)] (.c (.string (bs (docT K (f + 1) (.obj [.list a, .list b]))))) := by
    have e : txs (strsJ (fun i => opB K (f + 1) (gD a i)) a.length ++ strsJ (fun i => fragB K (f + 1) (gD b i)) b.length) = a.map (opB K (f + 1)) ++ b.map (fragB K (f + 1)) := by
      have h1 := map_strsR (opB K (f + 1)) a
      have h2 := map_strsR (fragB K (f + 1)) b
      unfold txs at h1 h2 ⊢
      rw [List.map_append, h1, h2]
    have := join_ac (strsJ (fun i => opB K (f + 1) (gD a i)) a.length ++ strsJ (fun i => fragB K (f + 1) (gD b i)) b.length) [10] (by rw [List.length_append, strsR_len, strsR_len]; omega) (by rw [e]; exact Nat.le_trans hdl (by omega))
    rw [e] at this
    exact this
  refine ac_enter 48 Tryz.func28 rfl rfl rfl rfl ?_
  intro s w he
  repeat' (first
 | refine aw_region ?_
 | refine awo_nil ?_
 | refine k_seq ?_
 | (apply aw_1
    conv => whnf
    refine ⟨?_, trivial⟩)
 | (apply s_1
    conv => whnf; arg 1; arg 4; arg 3; whnf
    refine ⟨?_, ?_⟩)
 | (apply s_box rfl rfl rfl rfl
    · conv => lhs; whnf; arg 1; whnf
    · rfl)
 | exact trivial)
  refine aw_sub (Sub.own (t := 3) (e := 9) rfl rfl) ?_
  refine aw_loop (fun j st => ∃ i, i + j = a.length ∧ Sub (cx EN Tryz.prog s w he) st (HpO K (f + 1) a b i)) a.length ⟨0, by omega, Sub.live ⟨rfl, rfl, rfl, rfl, rfl, trivial⟩ ⟨rfl, rfl, trivial⟩⟩ ?_
  rintro j st ⟨i, hij, hs2⟩
  refine aw_sub hs2 ?_
  clear hs2
  have htk := strsR_len (fun i => opB K (f + 1) (gD a i)) i
  by_cases hi : i < a.length
  · have f0 : decide ((i : Int) < (a.length : Nat)) = true := decide_eq_true (by omega)
    obtain ⟨o1, o2, o3, o4⟩ := h.op hi
    have hn := wD_str ((gD a i).f 1)
    have hnn := wD_f (gD a i) 1
    have hn3 := wD_f (gD a i) 3
    have hl3 := wD_list ((gD a i).f 3)
    have hbd := bulkD_wD (gD a i)
    have hhd := opHead_ac K (gD a i) o1 (by omega)
    have hol := opT_len K (gD a i) o3
    have hv2 := wD_f (gD a i) 2
    have hl2 := wD_list ((gD a i).f 2)
    have hbl : AC EN Tryz.prog 57 [.c (.string (bs (opT K (gD a i)))), .sl 76 ((gD a i).f 3).l] (.c (.string (bs (opB K (f + 1) (gD a i))))) :=
      block_ac K f (opT K (gD a i)) ((gD a i).f 3).l o2 (fun q => (o3.f 3).l q) (by omega) hdp (by omega)
    repeat' (first
 | (apply aw_cond_kt
    · conv => lhs; whnf
    · assumption)
 | refine aw_region ?_
 | refine awo_nil ?_
 | refine k_seq ?_
 | refine k_block ?_
 | (apply aw_1
    conv => whnf
    refine ⟨?_, trivial⟩)
 | (apply s_1
    conv => whnf; arg 1; arg 4; arg 3; whnf
    refine ⟨?_, ?_⟩)
 | (apply s_store rfl rfl rfl
    · conv => lhs; whnf
    · conv => lhs; whnf; arg 1; whnf
    · conv => lhs; whnf; arg 1; whnf
    · exact ⟨by kernel_rfl, by kernel_rfl⟩
    · rfl)
 | (apply aw_draw (by kernel_rfl) (by kernel_rfl))
 | apply y_nil
 | (apply y_val rfl
    · conv => lhs; whnf
    · conv => lhs; whnf; arg 2; whnf)
 | (apply y_call rfl
    · conv => lhs; whnf
    · conv => lhs; whnf
    · first | exact hhd | exact hbl)
 | (apply y_app rfl rfl
    · conv => lhs; whnf
    · first | exact elemStr | (conv => lhs; whnf; arg 1; whnf)
    · first | exact fun _ => rfl | (intro _; kernel_rfl)
    · conv => lhs; whnf
    · rfl
    · rfl
    · conv => lhs; whnf; arg 1; whnf
    · conv => lhs; whnf)
 | (apply y_lit1 rfl rfl
    · conv => lhs; whnf
    · first | exact elemStr | (conv => lhs; whnf; arg 1; whnf)
    · conv => lhs; whnf; arg 1; whnf
    · rfl
    · rfl)
 | exact apartB_none
 | (show apartB _ _ = true; rfl)
 | exact trivial)
    all_goals first
      | exact i64_ok (by omega)
      | exact at_in hi
      | exact app_ok (by omega) (by omega)
      | skip
    refine k_loop_next (j' := j - 1) (by omega) ⟨i + 1, by omega, Sub.live ⟨rfl, ?_, rfl, rfl, rfl, trivial⟩ ⟨rfl, ?_, trivial⟩⟩
    · show V.own 3 _ (strsJ _ i ++ [.str (bs _)]) = _
      rw [strsR_succ]
    · show some (Res.tok _ ((strsJ _ i).length + 1)) = _
      rw [strsR_succ, List.length_append]; rfl
  · have f0 : decide ((i : Int) < (a.length : Nat)) = false := decide_eq_false (by omega)
    obtain rfl : i = a.length := by omega
    repeat' (first
 | (apply aw_cond_kf
    · conv => lhs; whnf
    · assumption)
 | refine aw_region ?_
 | refine awo_nil ?_
 | refine k_seq ?_
 | (apply aw_1
    conv => whnf
    refine ⟨?_, trivial⟩)
 | (apply s_1
    conv => whnf; arg 1; arg 4; arg 3; whnf
    refine ⟨?_, ?_⟩)
 | refine k_seq_exit ?_
 | refine k_block_hit rfl ?_
 | refine k_loop_exit ?_
 | exact trivial)
    refine aw_loop (fun j st => ∃ i, i + j = b.length ∧ Sub (cx EN Tryz.prog s w he) st (HpF K (f + 1) a b i)) b.length ⟨0, by omega, Sub.live ⟨rfl, ?_, rfl, rfl, rfl, trivial⟩ ⟨rfl, ?_, trivial⟩⟩ ?_
    · show V.own 3 _ (strsJ _ a.length) = V.own 3 _ (strsJ _ a.length ++ [])
      rw [List.append_nil]
    · show some (Res.tok _ (strsJ _ a.length).length) = some (Res.tok _ (strsJ _ a.length ++ []).length)
      rw [List.append_nil]
    rintro j2 st2 ⟨q, hqj, hs3⟩
    refine aw_sub hs3 ?_
    clear hs3
    have htk2 := strsR_len (fun i => fragB K (f + 1) (gD b i)) q
    have hap : (strsJ (fun i => opB K (f + 1) (gD a i)) a.length ++ strsJ (fun i => fragB K (f + 1) (gD b i)) q).length = a.length + q := by rw [List.length_append, htk, htk2]
    by_cases hq : q < b.length
    · have f2 : decide ((q : Int) < (b.length : Nat)) = true := decide_eq_true (by omega)
      obtain ⟨o2, o3, o4⟩ := h.frg hq
      have hn0 := wD_str ((gD b q).f 0)
      have hn1 := wD_str ((gD b q).f 1)
      have hf0 := wD_f (gD b q) 0
      have hf1 := wD_f (gD b q) 1
      have hf2 := wD_f (gD b q) 2
      have hl2 := wD_list ((gD b q).f 2)
      have hbd := bulkD_wD (gD b q)
      have t0 := tx_len ((gD b q).f 0).s
      have t1 := tx_len ((gD b q).f 1).s
      have hlen : (fragH (gD b q)).length = 15 + ((gD b q).f 0).s.size + ((gD b q).f 1).s.size := by simp only [fragH, List.length_append, List.length_cons, List.length_nil]; omega
      have hbl : AC EN Tryz.prog 57 [.c (.string ((⟨#[102, 114, 97, 103, 109, 101, 110, 116, 32]⟩ : ByteArray) ++ ((gD b q).f 0).s ++ ⟨#[32, 111, 110, 32]⟩ ++ ((gD b q).f 1).s ++ ⟨#[32, 123]⟩)), .sl 76 ((gD b q).f 2).l] (.c (.string (bs (fragB K (f + 1) (gD b q))))) := by
        rw [fragH_bs]
        exact block_ac K f (fragH (gD b q)) ((gD b q).f 2).l o2 (fun z => (o3.f 2).l z) (by omega) hdp (by omega)
      repeat' (first
 | (apply aw_cond_kt
    · conv => lhs; whnf
    · assumption)
 | refine aw_region ?_
 | refine awo_nil ?_
 | refine k_seq ?_
 | refine k_block ?_
 | (apply aw_1
    conv => whnf
    refine ⟨?_, trivial⟩)
 | (apply s_1
    conv => whnf; arg 1; arg 4; arg 3; whnf
    refine ⟨?_, ?_⟩)
 | (apply s_call rfl
    · conv => lhs; whnf
    · conv => lhs; whnf
    · first | exact hbl)
 | (apply s_store rfl rfl rfl
    · conv => lhs; whnf
    · conv => lhs; whnf; arg 1; whnf
    · conv => lhs; whnf; arg 1; whnf
    · exact ⟨by kernel_rfl, by kernel_rfl⟩
    · rfl)
 | (apply s_app rfl rfl
    · conv => lhs; whnf
    · first | exact elemStr | (conv => lhs; whnf; arg 1; whnf)
    · first | exact fun _ => rfl | (intro _; kernel_rfl)
    · conv => lhs; whnf
    · conv => lhs; whnf; arg 1; whnf
    · conv => lhs; whnf)
 | (apply s_lit1 rfl rfl
    · conv => lhs; whnf
    · first | exact elemStr | (conv => lhs; whnf; arg 1; whnf)
    · conv => lhs; whnf; arg 1; whnf
    · rfl
    · rfl)
 | exact trivial)
      all_goals first
        | exact i64_ok (by omega)
        | exact at_in hq
        | exact app_ok (by omega) (by omega)
        | ((simp only [ByteArray.size_append, bs_size, lit_size, List.size_toArray, List.length_append, List.length_cons, List.length_nil, maxLen, Nat.reduceAdd, Int.toNat_natCast]; omega); done)
        | skip
      refine k_loop_next (j' := j2 - 1) (by omega) ⟨q + 1, by omega, Sub.live ⟨rfl, ?_, rfl, rfl, rfl, trivial⟩ ⟨rfl, ?_, trivial⟩⟩
      · show V.own 3 _ (strsJ _ a.length ++ strsJ _ q ++ [.str (bs _)]) = V.own 3 _ (strsJ _ a.length ++ strsJ _ (q + 1))
        rw [strsR_succ, List.append_assoc]
      · show some (Res.tok _ ((strsJ _ a.length ++ strsJ _ q).length + 1)) = some (Res.tok _ (strsJ _ a.length ++ strsJ _ (q + 1)).length)
        rw [strsR_succ, ← List.append_assoc, List.length_append (bs := [_])]; rfl
    · have f2 : decide ((q : Int) < (b.length : Nat)) = false := decide_eq_false (by omega)
      obtain rfl : q = b.length := by omega
      repeat' (first
 | (apply aw_cond_kf
    · conv => lhs; whnf
    · assumption)
 | refine aw_region ?_
 | refine awo_nil ?_
 | refine k_seq ?_
 | (apply aw_1
    conv => whnf
    refine ⟨?_, trivial⟩)
 | (apply s_1
    conv => whnf; arg 1; arg 4; arg 3; whnf
    refine ⟨?_, ?_⟩)
 | (apply s_call rfl
    · conv => lhs; whnf
    · conv => lhs; whnf
    · first | exact hj)
 | refine k_seq_exit ?_
 | refine k_block_hit rfl ?_
 | refine k_loop_exit ?_
 | refine k_end_ret ?_
 | (refine ⟨_, by conv => lhs; whnf; arg 2; whnf, ?_⟩; conv => rhs; whnf)
 | exact trivial)
end Go.Proofs.YthjiclhfhjdjpaaGreatDoor
namespace Go.Proofs.YthjiclhfhjdjpaaGreatDoor
open Go.RowKit
set_option linter.unusedSectionVars false
attribute [local irreducible] wpList Calls Code.wp AW AWo OpOk seqK blockK scopeK loopK endK AC absLex Yld Sub
attribute [local irreducible] ACB absLexG YldG
def jr (ts : List (List UInt8)) (i : Nat) : List UInt8 := Lib.join (ts.take i) [10]
set_option maxHeartbeats 8000000 in
set_option maxRecDepth 100000 in
theorem jr_succ {ts : List (List UInt8)} {i : Nat} {t : List UInt8} (ht : ts[i]? = some t) : jr ts (i + 1) = jr ts i ++ ((if i = 0 then [] else [10]) ++ t) := by
  obtain ⟨hi, hg⟩ := List.getElem?_eq_some_iff.1 ht
  unfold jr
  rw [List.take_succ_eq_append_getElem hi, hg]
  by_cases h : i = 0
  · subst h
    simp [Lib.join_nil, Lib.join_one]
  · rw [if_neg h, joinSnoc _ _ _ (fun e => by have h2 := congrArg List.length e; rw [List.length_take] at h2; simp only [List.length_nil] at h2; omega)]
    simp
set_option maxHeartbeats 8000000 in
set_option maxRecDepth 100000 in
theorem jr_le (ts : List (List UInt8)) (i : Nat) : (jr ts i).length ≤ (Lib.join ts [10]).length := joinMono ts [10] i
/-- all blocks of a document -/
def blks (K f : Nat) (a b : List D) : List (List UInt8) := a.map (opB K f) ++ b.map (fragB K f)
set_option maxHeartbeats 8000000 in
set_option maxRecDepth 100000 in
theorem blks_op {K f : Nat} {a b : List D} {i : Nat} (h : i < a.length) : (blks K f a b)[i]? = some (opB K f (gD a i)) := by
  unfold blks
  rw [List.getElem?_append_left (by simpa using h), List.getElem?_map, List.getElem?_eq_getElem h, gD_get h]; rfl
set_option maxHeartbeats 8000000 in
set_option maxRecDepth 100000 in
theorem blks_fr {K f : Nat} {a b : List D} {i : Nat} (h : i < b.length) : (blks K f a b)[a.length + i]? = some (fragB K f (gD b i)) := by
  unfold blks
  rw [List.getElem?_append_right (by simp), List.length_map, Nat.add_sub_cancel_left, List.getElem?_map, List.getElem?_eq_getElem h, gD_get h]; rfl
set_option maxHeartbeats 8000000 in
set_option maxRecDepth 100000 in
theorem opB_eq (K f : Nat) (o : D) : opB K f o = opT K o ++ ([10] ++ (selsT K f 1 (o.f 3).l ++ [125, 10])) := by
  unfold opB blockT lineT
  simp [Lib.repeatL]
set_option maxHeartbeats 8000000 in
set_option maxRecDepth 100000 in
theorem fragB_eq (K f : Nat) (o : D) : fragB K f o = [102, 114, 97, 103, 109, 101, 110, 116, 32] ++ (tx (o.f 0).s ++ ([32, 111, 110, 32] ++ (tx (o.f 1).s ++ ([32, 123, 10] ++ (selsT K f 1 (o.f 2).l ++ [125, 10]))))) := by
  unfold fragB blockT fragH lineT
  simp [Lib.repeatL]
set_option maxHeartbeats 8000000 in
set_option maxRecDepth 100000 in
theorem str_eq9 {a b : ByteArray} (h : tx a = tx b) : V.c (.string a) = V.c (.string b) := by
  have : a = b := by rw [← bs_tx a, h, bs_tx]
  rw [this]
noncomputable def HqO (K f : Nat) (a b : List D) (i : Nat) : Vst 72 :=
  stS 72 [(1, .bx 1 0), (3, .c (.string (bs (jr (blks K f a b) i)))), (4, .c (.int .i64 i))] [(1, .box 41 [.sl 57 a, .sl 116 b])]
noncomputable def HqF (K f : Nat) (a b : List D) (i : Nat) : Vst 72 :=
  stS 72 [(1, .bx 1 0), (3, .c (.string (bs (jr (blks K f a b) (a.length + i))))), (5, .c (.int .i64 i))] [(1, .box 41 [.sl 57 a, .sl 116 b])]
set_option maxHeartbeats 8000000 in
set_option maxRecDepth 100000 in
theorem printR_ac (K f : Nat) (a b : List D) (h : DocOk K f (.obj [.list a, .list b])) : AC EN Tryz.prog 29 [.agg [.sl 57 a, .sl 116 b]] (.c (.string (bs (docT K (f + 1) (.obj [.list a, .list b]))))) := by
  have hbk : bulkD (.obj [.list a, .list b]) = bulkL a + bulkL b + 3 := by simp [bulkD, bulkL]; omega
  have hb0 := h.bulk
  have hdp := h.deep
  have hla := len_bulk a
  have hlb := len_bulk b
  have hdl := docT_len K f _ h.wide hdp
  have hdoc : docT K (f + 1) (.obj [.list a, .list b]) = Lib.join (blks K (f + 1) a b) [10] := rfl
  have hjr : ∀ i, (jr (blks K (f + 1) a b) i).length ≤ 1274 * 1048576 := fun i => by
    have := jr_le (blks K (f + 1) a b) i
    rw [← hdoc] at this
    omega
  have hend : jr (blks K (f + 1) a b) (a.length + b.length) = docT K (f + 1) (.obj [.list a, .list b]) := by
    rw [hdoc]
    unfold jr
    rw [List.take_of_length_le (by simp [blks])]
  refine ac_enter 72 Tryz.func29 rfl rfl rfl rfl ?_
  intro s w he
  repeat' (first
 | refine aw_region ?_
 | refine awo_nil ?_
 | refine k_seq ?_
 | (apply aw_1
    conv => whnf
    refine ⟨?_, trivial⟩)
 | (apply s_1
    conv => whnf; arg 1; arg 4; arg 3; whnf
    refine ⟨?_, ?_⟩)
 | (apply s_box rfl rfl rfl rfl
    · conv => lhs; whnf; arg 1; whnf
    · rfl)
 | exact trivial)
  refine aw_loop (fun j st => ∃ i, i + j = a.length ∧ Sub (cx EN Tryz.prog s w he) st (HqO K (f + 1) a b i)) a.length ⟨0, by omega, Sub.live ⟨rfl, rfl, rfl, trivial⟩ ⟨rfl, trivial⟩⟩ ?_
  rintro j st ⟨i, hij, hs2⟩
  refine aw_sub hs2 ?_
  clear hs2
  have hji := hjr i
  by_cases hi : i < a.length
  · have f0 : decide ((i : Int) < (a.length : Nat)) = true := decide_eq_true (by omega)
    obtain ⟨o1, o2, o3, o4⟩ := h.op hi
    have hn := wD_str ((gD a i).f 1)
    have hnn := wD_f (gD a i) 1
    have hn3 := wD_f (gD a i) 3
    have hl3 := wD_list ((gD a i).f 3)
    have hbd := bulkD_wD (gD a i)
    have hhd := opHeadR_ac K (gD a i) o1 (by omega)
    have hol := opT_len K (gD a i) o3
    have hv2 := wD_f (gD a i) 2
    have hl2 := wD_list ((gD a i).f 2)
    have hsl := selsT_len K (f + 1) 1 ((gD a i).f 3).l fun q => (o3.f 3).l q
    have hs2 : (4 * (1 + (f + 1)) + 70) * bulkL ((gD a i).f 3).l ≤ 1274 * 1048576 := Nat.mul_le_mul (by omega) (by omega)
    have hse := selsR_ac K f ((gD a i).f 3).l o2 (fun q => (o3.f 3).l q) (by omega) hdp
    have hstep := jr_succ (blks_op (K := K) (f := f + 1) (b := b) hi)
    by_cases h0 : i = 0
    · have f1 : decide ((i : Int) > 0) = false := decide_eq_false (by omega)
      rw [if_pos h0, List.nil_append, opB_eq] at hstep
      repeat' (first
 | (apply aw_cond_kt
    · conv => lhs; whnf
    · assumption)
 | (apply aw_cond_kf
    · conv => lhs; whnf
    · assumption)
 | refine aw_region ?_
 | refine awo_nil ?_
 | refine k_seq ?_
 | refine k_block ?_
 | (apply aw_1
    conv => whnf
    refine ⟨?_, trivial⟩)
 | (apply s_1
    conv => whnf; arg 1; arg 4; arg 3; whnf
    refine ⟨?_, ?_⟩)
 | (apply aw_draw (by kernel_rfl) (by kernel_rfl))
 | apply y_nil
 | (apply y_val rfl
    · conv => lhs; whnf
    · conv => lhs; whnf; arg 2; whnf)
 | (apply y_call rfl
    · conv => lhs; whnf
    · conv => lhs; whnf
    · first | exact hhd | exact hse)
 | exact apartB_none
 | exact apartB_nil
 | exact (1000000 : Nat)
 | exact trivial)
      all_goals first
        | exact i64_ok (by omega)
        | exact at_in hi
        | ((simp only [ByteArray.size_append, bs_size, lit_size, List.size_toArray, List.length_append, List.length_cons, List.length_nil, maxLen, Nat.reduceAdd, Int.toNat_natCast]; omega); done)
        | skip
      refine k_loop_next (j' := j - 1) (by omega) ⟨i + 1, by omega, Sub.live ⟨rfl, ?_, rfl, trivial⟩ ⟨rfl, trivial⟩⟩
      refine str_eq9 ?_
      rw [tx_bs, hstep]
      simp only [tx_append, tx_bs, List.append_assoc]; rfl
    · have f1 : decide ((i : Int) > 0) = true := decide_eq_true (by omega)
      rw [if_neg h0, opB_eq] at hstep
      repeat' (first
 | (apply aw_cond_kt
    · conv => lhs; whnf
    · assumption)
 | refine aw_region ?_
 | refine awo_nil ?_
 | refine k_seq ?_
 | refine k_block ?_
 | (apply aw_1
    conv => whnf
    refine ⟨?_, trivial⟩)
 | (apply s_1
    conv => whnf; arg 1; arg 4; arg 3; whnf
    refine ⟨?_, ?_⟩)
 | (apply aw_draw (by kernel_rfl) (by kernel_rfl))
 | apply y_nil
 | (apply y_val rfl
    · conv => lhs; whnf
    · conv => lhs; whnf; arg 2; whnf)
 | (apply y_call rfl
    · conv => lhs; whnf
    · conv => lhs; whnf
    · first | exact hhd | exact hse)
 | exact apartB_none
 | exact apartB_nil
 | exact (1000000 : Nat)
 | exact trivial)
      all_goals first
        | exact i64_ok (by omega)
        | exact at_in hi
        | ((simp only [ByteArray.size_append, bs_size, lit_size, List.size_toArray, List.length_append, List.length_cons, List.length_nil, maxLen, Nat.reduceAdd, Int.toNat_natCast]; omega); done)
        | skip
      refine k_loop_next (j' := j - 1) (by omega) ⟨i + 1, by omega, Sub.live ⟨rfl, ?_, rfl, trivial⟩ ⟨rfl, trivial⟩⟩
      refine str_eq9 ?_
      rw [tx_bs, hstep]
      simp only [tx_append, tx_bs, List.append_assoc]; rfl
  · have f0 : decide ((i : Int) < (a.length : Nat)) = false := decide_eq_false (by omega)
    obtain rfl : i = a.length := by omega
    repeat' (first
 | (apply aw_cond_kf
    · conv => lhs; whnf
    · assumption)
 | refine aw_region ?_
 | refine awo_nil ?_
 | refine k_seq ?_
 | (apply aw_1
    conv => whnf
    refine ⟨?_, trivial⟩)
 | (apply s_1
    conv => whnf; arg 1; arg 4; arg 3; whnf
    refine ⟨?_, ?_⟩)
 | refine k_seq_exit ?_
 | refine k_block_hit rfl ?_
 | refine k_loop_exit ?_
 | exact trivial)
    refine aw_loop (fun j st => ∃ i, i + j = b.length ∧ Sub (cx EN Tryz.prog s w he) st (HqF K (f + 1) a b i)) b.length ⟨0, by omega, Sub.live ⟨rfl, rfl, rfl, trivial⟩ ⟨rfl, trivial⟩⟩ ?_
    rintro j2 st2 ⟨q, hqj, hs3⟩
    refine aw_sub hs3 ?_
    clear hs3
    have hjq := hjr (a.length + q)
    by_cases hq : q < b.length
    · have f2 : decide ((q : Int) < (b.length : Nat)) = true := decide_eq_true (by omega)
      obtain ⟨o2, o3, o4⟩ := h.frg hq
      have hn0 := wD_str ((gD b q).f 0)
      have hn1 := wD_str ((gD b q).f 1)
      have hf0 := wD_f (gD b q) 0
      have hf1 := wD_f (gD b q) 1
      have hf2 := wD_f (gD b q) 2
      have hl2 := wD_list ((gD b q).f 2)
      have hbd := bulkD_wD (gD b q)
      have hsl := selsT_len K (f + 1) 1 ((gD b q).f 2).l fun z => (o3.f 2).l z
      have hs2 : (4 * (1 + (f + 1)) + 70) * bulkL ((gD b q).f 2).l ≤ 1274 * 1048576 := Nat.mul_le_mul (by omega) (by omega)
      have hse := selsR_ac K f ((gD b q).f 2).l o2 (fun z => (o3.f 2).l z) (by omega) hdp
      have hstep := jr_succ (blks_fr (K := K) (f := f + 1) (a := a) hq)
      by_cases h0 : a.length + q = 0
      · have f1 : decide ((a.length : Int) + (q : Int) > 0) = false := decide_eq_false (by omega)
        rw [if_pos h0, List.nil_append, fragB_eq] at hstep
        repeat' (first
 | (apply aw_cond_kt
    · conv => lhs; whnf
    · assumption)
 | (apply aw_cond_kf
    · conv => lhs; whnf
    · assumption)
 | refine aw_region ?_
 | refine awo_nil ?_
 | refine k_seq ?_
 | refine k_block ?_
 | (apply aw_1
    conv => whnf
    refine ⟨?_, trivial⟩)
 | (apply s_1
    conv => whnf; arg 1; arg 4; arg 3; whnf
    refine ⟨?_, ?_⟩)
 | (apply s_store rfl rfl rfl
    · conv => lhs; whnf
    · conv => lhs; whnf; arg 1; whnf
    · conv => lhs; whnf; arg 1; whnf
    · exact ⟨by kernel_rfl, by kernel_rfl⟩
    · rfl)
 | (apply aw_draw (by kernel_rfl) (by kernel_rfl))
 | apply y_nil
 | (apply y_val rfl
    · conv => lhs; whnf
    · conv => lhs; whnf; arg 2; whnf)
 | (apply y_call rfl
    · conv => lhs; whnf
    · conv => lhs; whnf
    · first | exact hse)
 | exact apartB_none
 | exact apartB_nil
 | exact (1000000 : Nat)
 | exact trivial)
        all_goals first
          | exact i64_ok (by omega)
          | exact at_in hq
          | ((simp only [ByteArray.size_append, bs_size, lit_size, List.size_toArray, List.length_append, List.length_cons, List.length_nil, maxLen, Nat.reduceAdd, Int.toNat_natCast]; omega); done)
          | skip
        refine k_loop_next (j' := j2 - 1) (by omega) ⟨q + 1, by omega, Sub.live ⟨rfl, ?_, rfl, trivial⟩ ⟨rfl, trivial⟩⟩
        refine str_eq9 ?_
        rw [tx_bs, show a.length + (q + 1) = a.length + q + 1 from rfl, hstep]
        simp only [tx_append, tx_bs, List.append_assoc]; rfl
      · have f1 : decide ((a.length : Int) + (q : Int) > 0) = true := decide_eq_true (by omega)
        rw [if_neg h0, fragB_eq] at hstep
        repeat' (first
 | (apply aw_cond_kt
    · conv => lhs; whnf
    · assumption)
 | refine aw_region ?_
 | refine awo_nil ?_
 | refine k_seq ?_
 | refine k_block ?_
 | (apply aw_1
    conv => whnf
    refine ⟨?_, trivial⟩)
 | (apply s_1
    conv => whnf; arg 1; arg 4; arg 3; whnf
    refine ⟨?_, ?_⟩)
 | (apply s_store rfl rfl rfl
    · conv => lhs; whnf
    · conv => lhs; whnf; arg 1; whnf
    · conv => lhs; whnf; arg 1; whnf
    · exact ⟨by kernel_rfl, by kernel_rfl⟩
    · rfl)
 | (apply aw_draw (by kernel_rfl) (by kernel_rfl))
 | apply y_nil
 | (apply y_val rfl
    · conv => lhs; whnf
    · conv => lhs; whnf; arg 2; whnf)
 | (apply y_call rfl
    · conv => lhs; whnf
    · conv => lhs; whnf
    · first | exact hse)
 | exact apartB_none
 | exact apartB_nil
 | exact (1000000 : Nat)
 | exact trivial)
        all_goals first
          | exact i64_ok (by omega)
          | exact at_in hq
          | ((simp only [ByteArray.size_append, bs_size, lit_size, List.size_toArray, List.length_append, List.length_cons, List.length_nil, maxLen, Nat.reduceAdd, Int.toNat_natCast]; omega); done)
          | skip
        refine k_loop_next (j' := j2 - 1) (by omega) ⟨q + 1, by omega, Sub.live ⟨rfl, ?_, rfl, trivial⟩ ⟨rfl, trivial⟩⟩
        refine str_eq9 ?_
        rw [tx_bs, show a.length + (q + 1) = a.length + q + 1 from rfl, hstep]
        simp only [tx_append, tx_bs, List.append_assoc]; rfl
    · have f2 : decide ((q : Int) < (b.length : Nat)) = false := decide_eq_false (by omega)
      obtain rfl : q = b.length := by omega
      repeat' (first
 | (apply aw_cond_kf
    · conv => lhs; whnf
    · assumption)
 | refine aw_region ?_
 | refine awo_nil ?_
 | refine k_seq ?_
 | (apply aw_1
    conv => whnf
    refine ⟨?_, trivial⟩)
 | (apply s_1
    conv => whnf; arg 1; arg 4; arg 3; whnf
    refine ⟨?_, ?_⟩)
 | refine k_seq_exit ?_
 | refine k_block_hit rfl ?_
 | refine k_loop_exit ?_
 | refine k_end_ret ?_
 | (refine ⟨_, by conv => lhs; whnf; arg 2; whnf, ?_⟩; conv => rhs; whnf)
 | exact trivial)
      rw [hend]
end Go.Proofs.YthjiclhfhjdjpaaGreatDoor
